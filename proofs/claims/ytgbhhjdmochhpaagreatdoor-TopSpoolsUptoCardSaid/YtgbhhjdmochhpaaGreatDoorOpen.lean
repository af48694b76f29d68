/-
  Arguments that are slices of structs of ints, opened. Conditions: none. By an AI agent.
-/
import Derived.Test.YtgbhhjdmochhpaaGreatDoorInts
import Derived.Deep.Slices
import Derived.Deep.Fields
import Derived.ChangeSame
import Derived.Lib.SmallJoins
namespace Go.Proofs.YtgbhhjdmochhpaaGreatDoor
open Go Go.ChangeShapes Go.WideShapes Go.RowKit Go.ChangeAt Go.Deep Go.Joins
set_option linter.unusedVariables false
set_option linter.unusedSimpArgs false

theorem cell_at {W : World} {a : Addr} {v : Value} (h : W.cell? a = some v) : a.spot = none ∧ a.block < W.heap.size := by
  unfold World.cell? at h
  split at h
  · rename_i hh
    split at h
    · cases h
    · rename_i hs
      exact ⟨by simpa using hs, (Array.getElem?_eq_some_iff.1 hh).1⟩
  · cases h
theorem sliceAt_of {W : World} {a : Addr} {len cap sz : Nat} (f : Nat → Nat → Value) (hl : len ≤ cap) (hm : cap ≤ maxLen) (hsz : 0 < sz) (hc : ∀ i, i < len → ∀ j, j < sz → W.cell? (a.add (i * sz + j)) = some (f i j)) : SliceAt W (.slice (some a) len cap) len sz f := by
  refine ⟨some a, cap, rfl, hl, hm, fun h0 => ?_⟩
  have h00 := hc 0 h0 0 hsz
  rw [Nat.zero_mul, Nat.zero_add] at h00
  obtain ⟨h1, h2⟩ := cell_at (show W.cell? a = some _ from h00)
  obtain ⟨b, off, sp⟩ := a
  obtain rfl : sp = none := h1
  exact ⟨b, off, rfl, h2, fun i j hi hj => by rw [← Addr.add_lit]; exact hc i hi j hj⟩
theorem pick_each {α : Type} [Inhabited α] {n : Nat} {p : Nat → α → Prop} (h : ∀ i, i < n → ∃ x, p i x) : ∃ g : Nat → α, ∀ i, i < n → p i (g i) :=
  ⟨fun i => if hi : i < n then Classical.choose (h i hi) else default, fun i hi => by simp only [dif_pos hi]; exact Classical.choose_spec (h i hi)⟩

section
variable {H : Type} {enc : TypeId × Value → H} {P : Program} {w : World}
theorem flat_slice_trod {t e : TypeId} {n sz fuel : Nat} {v : Value} {x : DataW H × List MemPlace} (ht : P.underlying t = some (.slice e)) (hC : P.cellsOf e = sz) (hpos : 0 < sz) (hfl : flatB P n e = true)
    (h : DataW.trod enc P w 0 (fun _ => true) true fuel t [v] = some x) :
    ∃ (len : Nat) (f : Nat → Nat → Int), SliceAt w v len sz (fun i j => .int .i64 (f i j)) ∧ ∀ i j, i < len → j < sz → -9223372036854775808 ≤ f i j ∧ f i j ≤ 9223372036854775807 := by
  rcases open_slice ht h with ⟨h0, _⟩ | ⟨a, len, cap, m, k, D, Pl, hcs, _, hl, hm, hmm, _, hi⟩
  · obtain rfl : v = .slice none 0 0 := by simpa using h0
    exact ⟨0, fun _ _ => 0, ⟨none, 0, rfl, by omega, by omega, fun h => by omega⟩, fun i j hi => by omega⟩
  · obtain rfl : v = .slice (some a) len cap := by simpa using hcs
    have hmc : m = cap := by simpa using hmm
    have each : ∀ i, i < len → ∃ g : Nat → Int, (∀ j, j < sz → w.cell? (a.add (i * sz + j)) = some (.int .i64 (g j))) ∧ ∀ j, j < sz → -9223372036854775808 ≤ g j ∧ g j ≤ 9223372036854775807 := by
      intro i hil
      obtain ⟨cs, hc, hd⟩ := hi i (by omega)
      rw [hC] at hc
      obtain ⟨_, hlen, hat⟩ := World.cells?_some hc
      have hints := flat_cells n e hfl k cs _ hd
      have hcell : ∀ j, j < sz → ∃ z : Int, w.cell? (a.add (i * sz + j)) = some (.int .i64 z) ∧ -9223372036854775808 ≤ z ∧ z ≤ 9223372036854775807 := by
        intro j hj
        obtain ⟨z, hz, hw⟩ := hints cs[j] (List.getElem_mem (by omega))
        have e0 := hat j (by omega)
        rw [add_add] at e0
        refine ⟨z, ?_, ?_⟩
        · rw [← hz, e0, List.getElem?_eq_getElem (by omega)]
        · simpa [Lit.wf, IntKind.min, IntKind.max, IntKind.signed, IntKind.bits] using hw
      obtain ⟨g, hg⟩ := pick_each (α := Int) (n := sz) (p := fun j z => w.cell? (a.add (i * sz + j)) = some (.int .i64 z) ∧ -9223372036854775808 ≤ z ∧ z ≤ 9223372036854775807) hcell
      exact ⟨g, fun j hj => (hg j hj).1, fun j hj => (hg j hj).2⟩
    obtain ⟨g, hg⟩ := pick_each (α := Nat → Int) (n := len) (p := fun i g => (∀ j, j < sz → w.cell? (a.add (i * sz + j)) = some (.int .i64 (g j))) ∧ ∀ j, j < sz → -9223372036854775808 ≤ g j ∧ g j ≤ 9223372036854775807) each
    exact ⟨len, g, sliceAt_of _ hl hm hpos (fun i hil j hj => (hg i hil).1 j hj), fun i j hil hj => (hg i hil).2 j hj⟩
theorem flat_slice {t e : TypeId} {n sz base : Nat} {r : Reach} {v : Value} {d : DataW H} {ps : List MemPlace} (ht : P.underlying t = some (.slice e)) (hC : P.cellsOf e = sz) (hpos : 0 < sz) (hfl : flatB P n e = true)
    (hv : Value.okWide P w r base t v) (h : DataW.Trod enc P w 0 (fun _ => true) true t v d ps) :
    ∃ (len : Nat) (f : Nat → Nat → Int), SliceAt w v len sz (fun i j => .int .i64 (f i j)) ∧ ∀ i j, i < len → j < sz → -9223372036854775808 ≤ f i j ∧ f i j ≤ 9223372036854775807 := by
  obtain ⟨a0, len0, cap0, hv0⟩ := okWide_slice ht hv
  obtain ⟨fuel, hf0⟩ := h
  have hf1 : DataW.trod enc P w 0 (fun _ => true) true fuel t [v] = some (d, ps) := by rw [hv0] at hf0 ⊢; exact hf0
  exact flat_slice_trod ht hC hpos hfl hf1
end
theorem vecs_of_flat {w : World} {v : Value} {n : Nat} {f : Nat → Nat → Int} (h : SliceAt w v n 3 (fun i j => .int .i64 (f i j))) : VecsAt w v n (fun i => f i 0) (fun i => f i 1) (fun i => f i 2) := by
  obtain ⟨oa, cap, h1, h2, h3, h4⟩ := h
  refine ⟨oa, cap, h1, h2, h3, fun hn => ?_⟩
  obtain ⟨b, off, e1, hlt, hc⟩ := h4 hn
  refine ⟨b, off, e1, hlt, fun i j hi hj => ?_⟩
  rw [hc i j hi hj]
  rcases (by omega : j = 0 ∨ j = 1 ∨ j = 2) with rfl | rfl | rfl <;> rfl
end Go.Proofs.YtgbhhjdmochhpaaGreatDoor
