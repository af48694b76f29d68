/-
  Slices of ints and of vectors in memory; what an appended slice owns; conditions on all numbers below a bound. Conditions: none. By an AI agent.
-/
import Derived.Test.YtgbhhjdmochhpaaGreatDoorSlices
import Derived.Test.YtgbhhjdmochhpaaGreatDoorSeq
namespace Go.Proofs.YtgbhhjdmochhpaaGreatDoor
open Go Go.RowKit
set_option linter.unusedVariables false

def allTo (f : Nat → Bool) : Nat → Bool
  | 0 => true
  | n + 1 => allTo f n && f n
theorem allTo_iff {f : Nat → Bool} : ∀ {n : Nat}, allTo f n = true ↔ ∀ i, i < n → f i = true
  | 0 => ⟨fun _ i h => by omega, fun _ => rfl⟩
  | n + 1 => by
    unfold allTo
    rw [Bool.and_eq_true, allTo_iff (n := n)]
    constructor
    · rintro ⟨h1, h2⟩ i hi
      by_cases e : i = n
      · subst e; exact h2
      · exact h1 i (by omega)
    · intro h
      exact ⟨fun i hi => h i (by omega), h n (by omega)⟩
theorem allTo_no {f : Nat → Bool} {n i : Nat} (hi : i < n) (h : f i = false) : allTo f n = false := by
  cases e : allTo f n with
  | false => rfl
  | true => rw [allTo_iff.1 e i hi] at h; cases h
theorem allTo_not {f : Nat → Bool} {n : Nat} (h : allTo f n = false) : ∃ i, i < n ∧ f i = false := by
  apply Classical.byContradiction
  intro hc
  have : allTo f n = true := allTo_iff.2 fun i hi => by
    cases e : f i with
    | true => rfl
    | false => exact absurd ⟨i, hi, e⟩ hc
  rw [this] at h; cases h
theorem allTo_congr {f g : Nat → Bool} {n : Nat} (h : ∀ i, i < n → f i = g i) : allTo f n = allTo g n := by
  cases e : allTo g n with
  | true => exact allTo_iff.2 fun i hi => by rw [h i hi]; exact allTo_iff.1 e i hi
  | false =>
    obtain ⟨i, hi, hg⟩ := allTo_not e
    exact allTo_no hi (by rw [h i hi]; exact hg)

/-- ints in memory -/
def IntsAt (w : World) (v : Value) (n : Nat) (f : Nat → Int) : Prop := SliceAt w v n 1 (fun i _ => .int .i64 (f i))
theorem IntsAt.below {w w' : World} {v : Value} {n : Nat} {f : Nat → Int} (h : IntsAt w v n f) (hb : Below w.heap.size w w') : IntsAt w' v n f := SliceAt.below h hb
theorem IntsAt.form {w : World} {v : Value} {n : Nat} {f : Nat → Int} (h : IntsAt w v n f) : ∃ (oa : Option Addr) (cap : Nat), v = .slice oa n cap ∧ n ≤ 9223372036854775807 ∧
    ∀ i, i < n → ∃ b off, oa = some ⟨b, off, none⟩ ∧ b < w.heap.size ∧ ∀ k, k < n → w.cell? ⟨b, off + k, none⟩ = some (.int .i64 (f k)) := by
  obtain ⟨oa, cap, h1, h2, h3, h4⟩ := h
  refine ⟨oa, cap, h1, by omega, fun i hi => ?_⟩
  obtain ⟨b, off, e, hlt, hc⟩ := h4 (by omega)
  exact ⟨b, off, e, hlt, fun k hk => by have := hc k 0 hk (by decide); simpa using this⟩
theorem IntsAt.congr {w : World} {v : Value} {n : Nat} {f g : Nat → Int} (h : IntsAt w v n f) (e : ∀ i, i < n → f i = g i) : IntsAt w v n g := by
  obtain ⟨oa, cap, h1, h2, h3, h4⟩ := h
  refine ⟨oa, cap, h1, h2, h3, fun hn => ?_⟩
  obtain ⟨b, off, e1, hlt, hc⟩ := h4 hn
  exact ⟨b, off, e1, hlt, fun i j hi hj => by rw [hc i j hi hj]; simp only [e i hi]⟩
theorem intsAt_nil (w : World) (f : Nat → Int) : IntsAt w (.slice none 0 0) 0 f := ⟨none, 0, rfl, by omega, by omega, fun h => by omega⟩

/-- vectors in memory -/
def VecsAt (w : World) (v : Value) (n : Nat) (x y z : Nat → Int) : Prop := SliceAt w v n 3 (fun i j => match j with | 0 => .int .i64 (x i) | 1 => .int .i64 (y i) | _ => .int .i64 (z i))
theorem VecsAt.below {w w' : World} {v : Value} {n : Nat} {x y z : Nat → Int} (h : VecsAt w v n x y z) (hb : Below w.heap.size w w') : VecsAt w' v n x y z := SliceAt.below h hb
theorem VecsAt.form {w : World} {v : Value} {n : Nat} {x y z : Nat → Int} (h : VecsAt w v n x y z) : ∃ (oa : Option Addr) (cap : Nat), v = .slice oa n cap ∧ n ≤ 9223372036854775807 ∧
    ∀ i, i < n → ∃ b off, oa = some ⟨b, off, none⟩ ∧ b < w.heap.size ∧ ∀ k, k < n → w.cell? ⟨b, off + k * 3, none⟩ = some (.int .i64 (x k)) ∧ w.cell? ⟨b, off + k * 3 + 1, none⟩ = some (.int .i64 (y k)) ∧ w.cell? ⟨b, off + k * 3 + 2, none⟩ = some (.int .i64 (z k)) := by
  obtain ⟨oa, cap, h1, h2, h3, h4⟩ := h
  refine ⟨oa, cap, h1, by omega, fun i hi => ?_⟩
  obtain ⟨b, off, e, hlt, hc⟩ := h4 (by omega)
  exact ⟨b, off, e, hlt, fun k hk => ⟨hc k 0 hk (by decide), hc k 1 hk (by decide), hc k 2 hk (by decide)⟩⟩
theorem VecsAt.congr {w : World} {v : Value} {n : Nat} {x y z x' y' z' : Nat → Int} (h : VecsAt w v n x y z) (e : ∀ i, i < n → x i = x' i ∧ y i = y' i ∧ z i = z' i) : VecsAt w v n x' y' z' := by
  obtain ⟨oa, cap, h1, h2, h3, h4⟩ := h
  refine ⟨oa, cap, h1, h2, h3, fun hn => ?_⟩
  obtain ⟨b, off, e1, hlt, hc⟩ := h4 hn
  refine ⟨b, off, e1, hlt, fun i j hi hj => ?_⟩
  rw [hc i j hi hj]
  obtain ⟨ex, ey, ez⟩ := e i hi
  rcases (by omega : j = 0 ∨ j = 1 ∨ j = 2) with rfl | rfl | rfl
  · simp only [ex]
  · simp only [ey]
  · simp only [ez]

/-- the value's block is not older than B -/
def NewFrom (B : Nat) (v : Value) : Prop := ∀ b, v.ownBlock = some b → B ≤ b
theorem newFrom_nil (B : Nat) : NewFrom B (.slice none 0 0) := fun b h => by simp [Value.ownBlock] at h
theorem NewFrom.mono {B C : Nat} {v : Value} (h : NewFrom B v) (hc : C ≤ B) : NewFrom C v := fun b hb => Nat.le_trans hc (h b hb)

/- WHAT AN APPENDED SLICE OWNS. -/
theorem below_grown {w w' : World} (h : Below w.heap.size w w') : w.grownBy w' none := ⟨h.os, h.tape, h.output, h.size, fun k hk _ => h.block k hk⟩
theorem owns_below {w w' : World} {base : Nat} {e : TypeId} {size : Nat} {v : Value} {n : Nat} {xs : List Value} (h : w.ownsRow base e size v n xs) (hb : Below w.heap.size w w') : w'.ownsRow base e size v n xs :=
  h.kept (below_grown hb) (by cases hv : v.ownBlock <;> simp)
theorem owns_new {w : World} {base : Nat} {e : TypeId} {size : Nat} {v : Value} {n : Nat} {xs : List Value} (h : w.ownsRow base e size v n xs) : NewFrom base v := fun b hb => (h.lt b hb).1
theorem owns_slice {w : World} {base : Nat} {e : TypeId} {size : Nat} {v : Value} {n : Nat} {xs : List Value} (h : w.ownsRow base e size v n xs) (f : Nat → Nat → Value) (hsz : 0 < size) (hf : ∀ i j, i < n → j < size → xs[i * size + j]? = some (f i j)) : SliceAt w v n size f := by
  rcases h.2 with ⟨rfl, rfl⟩ | ⟨g, cap, cur, rfl, hb, hg, hnc, hcm, hcs, htake⟩
  · exact ⟨none, 0, rfl, by omega, by omega, fun h => by omega⟩
  · refine ⟨some ⟨g, 0, none⟩, cap, rfl, hnc, by simpa [maxLen] using hcm, fun _ => ⟨g, 0, rfl, (Array.getElem?_eq_some_iff.1 hg).1, fun i j hi hj => ?_⟩⟩
    have := h.cells (g := g) rfl _ _ (hf i j hi hj)
    have hadd : (⟨g, 0, none⟩ : Addr).add (i * size + j) = ⟨g, 0 + (i * size + j), none⟩ := by unfold Addr.add; split <;> simp_all
    rw [hadd] at this
    exact this
def listOf (g : Nat → Value) (n : Nat) : List Value := (List.range n).map g
theorem listOf_len (g : Nat → Value) (n : Nat) : (listOf g n).length = n := by simp [listOf]
theorem listOf_snoc (g : Nat → Value) (n : Nat) : listOf g n ++ [g n] = listOf g (n + 1) := by simp [listOf, List.range_succ]
theorem listOf_at (g : Nat → Value) (n i : Nat) (h : i < n) : (listOf g n)[i]? = some (g i) := by simp [listOf, h]
theorem owns_ints {w : World} {base : Nat} {e : TypeId} {v : Value} {n : Nat} {f : Nat → Int} (h : w.ownsRow base e 1 v n (listOf (fun i => .int .i64 (f i)) n)) : IntsAt w v n f :=
  owns_slice h _ (by decide) fun i j hi hj => by
    have : j = 0 := by omega
    subst this
    rw [show i * 1 + 0 = i by omega, listOf_at _ _ _ hi]

/-- ints, as a property of a value -/
def Prp.ints (n : Nat) (f : Nat → Int) : Prp where
  R := fun v w => IntsAt w v n f
  F := fun v b => 0 < n ∧ v.ownBlock = some b
  grow := fun v w w' hb h => h.below hb
  kept := fun v w w' b cs t hs hn h => by
    obtain ⟨oa, cap, h1, h2, h3, h4⟩ := h
    refine ⟨oa, cap, h1, h2, h3, fun h0 => ?_⟩
    obtain ⟨b', off, e, hlt, hc⟩ := h4 h0
    refine ⟨b', off, e, by rw [hs.size]; exact hlt, fun i j hi hj => ?_⟩
    have hne : b' ≠ b := fun e' => hn ⟨h0, by subst h1 e e'; rfl⟩
    rw [World.cell?_of_block (hs.other b' hne)]
    exact hc i j hi hj
  lt := fun v w b h hf => by
    obtain ⟨oa, cap, h1, h2, h3, h4⟩ := h
    obtain ⟨b', off, e, hlt, hc⟩ := h4 hf.1
    subst h1 e
    have : b' = b := by simpa [Value.ownBlock] using hf.2
    rw [← this]; exact hlt
/-- a slice that was built of some values -/
def Prp.built (n : Nat) (xs : Array Value) (t : TypeId) : Prp where
  R := fun v w => ∃ g : Nat, v = .slice (some ⟨g, 0, none⟩) n n ∧ w.heap[g]? = some (.cells xs t)
  F := fun v b => v.ownBlock = some b
  grow := fun v w w' hb ⟨g, h1, h2⟩ => ⟨g, h1, by rw [hb.block g (Array.getElem?_eq_some_iff.1 h2).1]; exact h2⟩
  kept := fun v w w' b cs t hs hn ⟨g, h1, h2⟩ => ⟨g, h1, by rw [hs.other g (fun e => hn (by rw [h1, e]; rfl))]; exact h2⟩
  lt := fun v w b ⟨g, h1, h2⟩ hf => by
    subst h1
    have : g = b := by simpa [Value.ownBlock] using hf
    rw [← this]; exact (Array.getElem?_eq_some_iff.1 h2).1
theorem built_new (n : Nat) (xs : Array Value) (t : TypeId) (w : World) : (Prp.built n xs t).R (.slice (some ⟨w.heap.size, 0, none⟩) n n) (w.alloc (.cells xs t)) := ⟨_, rfl, (MapKept.heap_alloc w _).1⟩
end Go.Proofs.YtgbhhjdmochhpaaGreatDoor
