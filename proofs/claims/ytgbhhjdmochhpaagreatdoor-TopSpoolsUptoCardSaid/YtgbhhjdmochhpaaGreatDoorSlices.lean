/-
  Slices of structs in memory: what their cells hold, as functions of the index; what stays so while nothing old turns. Conditions: none. By an AI agent.
-/
import Derived.Test.YtgbhhjdmochhpaaGreatDoorBase
namespace Go.Proofs.YtgbhhjdmochhpaaGreatDoor
open Go.RowKit

/-- v is a slice of n elements of sz cells each: cell j of element i holds f i j -/
def SliceAt (w : World) (v : Value) (n sz : Nat) (f : Nat → Nat → Value) : Prop :=
  ∃ (oa : Option Addr) (cap : Nat), v = .slice oa n cap ∧ n ≤ cap ∧ cap ≤ 9223372036854775807 ∧ (0 < n → ∃ b off, oa = some ⟨b, off, none⟩ ∧ b < w.heap.size ∧ ∀ i j, i < n → j < sz → w.cell? ⟨b, off + (i * sz + j), none⟩ = some (f i j))
theorem SliceAt.below {w w' : World} {v : Value} {n sz : Nat} {f : Nat → Nat → Value} (h : SliceAt w v n sz f) (hb : Below w.heap.size w w') : SliceAt w' v n sz f := by
  obtain ⟨oa, cap, h1, h2, h3, h4⟩ := h
  refine ⟨oa, cap, h1, h2, h3, fun hn => ?_⟩
  obtain ⟨b, off, e, hlt, hc⟩ := h4 hn
  exact ⟨b, off, e, Nat.lt_of_lt_of_le hlt hb.size, fun i j hi hj => (hb.cell (p := ⟨_, _, none⟩) hlt).trans (hc i j hi hj)⟩

/-- pairs of ints -/
def PairsAt (w : World) (v : Value) (n : Nat) (r q : Nat → Int) : Prop := SliceAt w v n 2 (fun i j => match j with | 0 => .int .i64 (r i) | _ => .int .i64 (q i))
theorem PairsAt.below {w w' : World} {v : Value} {n : Nat} {r q : Nat → Int} (h : PairsAt w v n r q) (hb : Below w.heap.size w w') : PairsAt w' v n r q := SliceAt.below h hb
theorem PairsAt.form {w : World} {v : Value} {n : Nat} {r q : Nat → Int} (h : PairsAt w v n r q) : ∃ (oa : Option Addr) (cap : Nat), v = .slice oa n cap ∧ n ≤ 9223372036854775807 ∧
    ∀ i, i < n → ∃ b off, oa = some ⟨b, off, none⟩ ∧ b < w.heap.size ∧ ∀ k, k < n → w.cell? ⟨b, off + k * 2, none⟩ = some (.int .i64 (r k)) ∧ w.cell? ⟨b, off + k * 2 + 1, none⟩ = some (.int .i64 (q k)) := by
  obtain ⟨oa, cap, h1, h2, h3, h4⟩ := h
  refine ⟨oa, cap, h1, by omega, fun i hi => ?_⟩
  obtain ⟨b, off, e, hlt, hc⟩ := h4 (by omega)
  exact ⟨b, off, e, hlt, fun k hk => ⟨hc k 0 hk (by decide), hc k 1 hk (by decide)⟩⟩
end Go.Proofs.YtgbhhjdmochhpaaGreatDoor
