/-
  SameInts, Same, Light and Options. Conditions: none. By an AI agent.
-/
import Derived.Test.YtbfbifogamlepaaDoorLiftC
import Derived.Test.YtbfbifogamlepaaDoorCraneF
namespace Go.Proofs.YtbfbifogamlepaaDoor
open Go Go.ChangeShapes Go.WideShapes Go.RowKit Go.ChangeAt
set_option linter.unusedSimpArgs false
set_option linter.unusedVariables false
/-- a list of strings in memory, of whatever length each -/
def NamesAt (w : World) (v : Value) (l : List ByteArray) : Prop := SliceAt w v l.length 1 (fun i _ => .string (l.getD i ⟨#[]⟩))
theorem NamesAt.below {w w' : World} {v : Value} {l : List ByteArray} (h : NamesAt w v l) (hb : Below w.heap.size w w') : NamesAt w' v l := SliceAt.below h hb
theorem names_nil (w : World) : NamesAt w (.slice none 0 0) [] := ⟨none, 0, rfl, by simp, by omega, fun h => by simp at h⟩
theorem NamesAt.form {w : World} {v : Value} {l : List ByteArray} (h : NamesAt w v l) : ∃ (oa : Option Addr) (cap : Nat), v = .slice oa l.length cap ∧ l.length ≤ 9223372036854775807 ∧
    ∀ i, i < l.length → ∃ b off, oa = some ⟨b, off, none⟩ ∧ b < w.heap.size ∧ ∀ k, k < l.length → w.cell? ⟨b, off + k, none⟩ = some (.string (l.getD k ⟨#[]⟩)) := by
  obtain ⟨oa, cap, h1, h2, h3, h4⟩ := h
  refine ⟨oa, cap, h1, by omega, fun i hi => ?_⟩
  obtain ⟨b, off, e, hlt, hc⟩ := h4 (by omega)
  exact ⟨b, off, e, hlt, fun k hk => by have := hc k 0 hk (by decide); simpa using this⟩
theorem owns_names {w : World} {base : Nat} {e : TypeId} {v : Value} {l : List ByteArray} (h : w.ownsRow base e 1 v l.length (l.map Value.string)) : NamesAt w v l :=
  owns_slice h _ (by decide) fun i j hi hj => by
    have : j = 0 := by omega
    subst this
    simp [hi]
theorem OutI.form {w : World} {v : Value} {l : List Int} (h : OutI w v l) : ∃ (oa : Option Addr) (cap : Nat), v = .slice oa l.length cap ∧ l.length ≤ 9223372036854775807 ∧
    ∀ i, i < l.length → ∃ b off, oa = some ⟨b, off, none⟩ ∧ b < w.heap.size ∧ ∀ k, k < l.length → w.cell? ⟨b, off + k, none⟩ = some (.int .i64 (l.getD k 0)) := IntsAt.form h
def lightB (n : Nat) (rn : Nat → Nat) : Bool := allTo (fun i => decide (rn i ≤ 40)) (min n 30) && decide (n ≤ 20)
theorem light_small {n : Nat} {rn : Nat → Nat} (h : lightB n rn = true) : n ≤ 20 ∧ ∀ i, i < n → rn i ≤ 40 := by
  unfold lightB at h
  rw [Bool.and_eq_true] at h
  have h2 := of_decide_eq_true h.2
  exact ⟨h2, fun i hi => of_decide_eq_true (allTo_iff.1 h.1 i (by omega))⟩
/-- the names of the cranes that carry so much so far out -/
def optTo (nm : Nat → ByteArray) (rn : Nat → Nat) (r q : Nat → Nat → Int) (rad g : Int) : Nat → List ByteArray
  | 0 => []
  | k + 1 => if g ≤ loadF (rn k) (r k) (q k) rad then optTo nm rn r q rad g k ++ [nm k] else optTo nm rn r q rad g k
theorem optTo_len (nm : Nat → ByteArray) (rn : Nat → Nat) (r q : Nat → Nat → Int) (rad g : Int) : ∀ k, (optTo nm rn r q rad g k).length ≤ k
  | 0 => by simp [optTo]
  | k + 1 => by
    have := optTo_len nm rn r q rad g k
    unfold optTo
    split
    · simp; omega
    · omega
def optF (n : Nat) (nm : Nat → ByteArray) (rn : Nat → Nat) (r q : Nat → Nat → Int) (rad m x y z u : Int) : List ByteArray := if (grossF m x y z u).2 ≠ 0 then [] else optTo nm rn r q rad (grossF m x y z u).1 n
theorem info_str : (Tryd.prog.info? 9).map (fun i => (i.zero, i.size, i.bytes)) = some (some (.string ⟨#[]⟩), 1, 16) := by kernel_rfl
end Go.Proofs.YtbfbifogamlepaaDoor
