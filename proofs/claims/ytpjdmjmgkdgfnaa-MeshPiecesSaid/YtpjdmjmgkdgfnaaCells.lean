/-
  The cells of a known block. Conditions: none. By an AI agent.
-/
import Derived.Test.YtpjdmjmgkdgfnaaSeq
namespace Go.Proofs.Ytpjdmjmgkdgfnaa
open Go Go.ChangeShapes Go.WideShapes Go.RowKit Go.ChangeAt
set_option linter.unusedVariables false

theorem cells_at {w : World} {b : Nat} {cs : Array Value} {t : TypeId} (h : w.heap[b]? = some (.cells cs t)) : (∀ i v, cs[i]? = some v → w.cell? ⟨b, i, none⟩ = some v) ∧ (∀ i, w.frozen? ⟨b, i, none⟩ = false) ∧ b < w.heap.size := by
  refine ⟨fun i v hv => ?_, fun i => ?_, (Array.getElem?_eq_some_iff.1 h).1⟩
  · rw [cell_of_row w b i cs t (0, 0) h]; exact hv
  · exact frozen_of_row w b i cs t h
theorem cells_at1 {w : World} {b : Nat} {x0 : Value} {t : TypeId} (h : w.heap[b]? = some (.cells #[x0] t)) :
    w.cell? ⟨b, 0, none⟩ = some x0 ∧ (∀ i, w.frozen? ⟨b, i, none⟩ = false) ∧ b < w.heap.size :=
  ⟨(cells_at h).1 0 x0 rfl, (cells_at h).2.1, (cells_at h).2.2⟩
theorem cells_at2 {w : World} {b : Nat} {x0 x1 : Value} {t : TypeId} (h : w.heap[b]? = some (.cells #[x0, x1] t)) :
    w.cell? ⟨b, 0, none⟩ = some x0 ∧ w.cell? ⟨b, 1, none⟩ = some x1 ∧ (∀ i, w.frozen? ⟨b, i, none⟩ = false) ∧ b < w.heap.size :=
  ⟨(cells_at h).1 0 x0 rfl, (cells_at h).1 1 x1 rfl, (cells_at h).2.1, (cells_at h).2.2⟩
theorem cells_at3 {w : World} {b : Nat} {x0 x1 x2 : Value} {t : TypeId} (h : w.heap[b]? = some (.cells #[x0, x1, x2] t)) :
    w.cell? ⟨b, 0, none⟩ = some x0 ∧ w.cell? ⟨b, 1, none⟩ = some x1 ∧ w.cell? ⟨b, 2, none⟩ = some x2 ∧ (∀ i, w.frozen? ⟨b, i, none⟩ = false) ∧ b < w.heap.size :=
  ⟨(cells_at h).1 0 x0 rfl, (cells_at h).1 1 x1 rfl, (cells_at h).1 2 x2 rfl, (cells_at h).2.1, (cells_at h).2.2⟩
theorem cells_at4 {w : World} {b : Nat} {x0 x1 x2 x3 : Value} {t : TypeId} (h : w.heap[b]? = some (.cells #[x0, x1, x2, x3] t)) :
    w.cell? ⟨b, 0, none⟩ = some x0 ∧ w.cell? ⟨b, 1, none⟩ = some x1 ∧ w.cell? ⟨b, 2, none⟩ = some x2 ∧ w.cell? ⟨b, 3, none⟩ = some x3 ∧ (∀ i, w.frozen? ⟨b, i, none⟩ = false) ∧ b < w.heap.size :=
  ⟨(cells_at h).1 0 x0 rfl, (cells_at h).1 1 x1 rfl, (cells_at h).1 2 x2 rfl, (cells_at h).1 3 x3 rfl, (cells_at h).2.1, (cells_at h).2.2⟩
theorem cells_at5 {w : World} {b : Nat} {x0 x1 x2 x3 x4 : Value} {t : TypeId} (h : w.heap[b]? = some (.cells #[x0, x1, x2, x3, x4] t)) :
    w.cell? ⟨b, 0, none⟩ = some x0 ∧ w.cell? ⟨b, 1, none⟩ = some x1 ∧ w.cell? ⟨b, 2, none⟩ = some x2 ∧ w.cell? ⟨b, 3, none⟩ = some x3 ∧ w.cell? ⟨b, 4, none⟩ = some x4 ∧ (∀ i, w.frozen? ⟨b, i, none⟩ = false) ∧ b < w.heap.size :=
  ⟨(cells_at h).1 0 x0 rfl, (cells_at h).1 1 x1 rfl, (cells_at h).1 2 x2 rfl, (cells_at h).1 3 x3 rfl, (cells_at h).1 4 x4 rfl, (cells_at h).2.1, (cells_at h).2.2⟩
theorem cells_at6 {w : World} {b : Nat} {x0 x1 x2 x3 x4 x5 : Value} {t : TypeId} (h : w.heap[b]? = some (.cells #[x0, x1, x2, x3, x4, x5] t)) :
    w.cell? ⟨b, 0, none⟩ = some x0 ∧ w.cell? ⟨b, 1, none⟩ = some x1 ∧ w.cell? ⟨b, 2, none⟩ = some x2 ∧ w.cell? ⟨b, 3, none⟩ = some x3 ∧ w.cell? ⟨b, 4, none⟩ = some x4 ∧ w.cell? ⟨b, 5, none⟩ = some x5 ∧ (∀ i, w.frozen? ⟨b, i, none⟩ = false) ∧ b < w.heap.size :=
  ⟨(cells_at h).1 0 x0 rfl, (cells_at h).1 1 x1 rfl, (cells_at h).1 2 x2 rfl, (cells_at h).1 3 x3 rfl, (cells_at h).1 4 x4 rfl, (cells_at h).1 5 x5 rfl, (cells_at h).2.1, (cells_at h).2.2⟩
theorem cells_at7 {w : World} {b : Nat} {x0 x1 x2 x3 x4 x5 x6 : Value} {t : TypeId} (h : w.heap[b]? = some (.cells #[x0, x1, x2, x3, x4, x5, x6] t)) :
    w.cell? ⟨b, 0, none⟩ = some x0 ∧ w.cell? ⟨b, 1, none⟩ = some x1 ∧ w.cell? ⟨b, 2, none⟩ = some x2 ∧ w.cell? ⟨b, 3, none⟩ = some x3 ∧ w.cell? ⟨b, 4, none⟩ = some x4 ∧ w.cell? ⟨b, 5, none⟩ = some x5 ∧ w.cell? ⟨b, 6, none⟩ = some x6 ∧ (∀ i, w.frozen? ⟨b, i, none⟩ = false) ∧ b < w.heap.size :=
  ⟨(cells_at h).1 0 x0 rfl, (cells_at h).1 1 x1 rfl, (cells_at h).1 2 x2 rfl, (cells_at h).1 3 x3 rfl, (cells_at h).1 4 x4 rfl, (cells_at h).1 5 x5 rfl, (cells_at h).1 6 x6 rfl, (cells_at h).2.1, (cells_at h).2.2⟩
theorem cells_at8 {w : World} {b : Nat} {x0 x1 x2 x3 x4 x5 x6 x7 : Value} {t : TypeId} (h : w.heap[b]? = some (.cells #[x0, x1, x2, x3, x4, x5, x6, x7] t)) :
    w.cell? ⟨b, 0, none⟩ = some x0 ∧ w.cell? ⟨b, 1, none⟩ = some x1 ∧ w.cell? ⟨b, 2, none⟩ = some x2 ∧ w.cell? ⟨b, 3, none⟩ = some x3 ∧ w.cell? ⟨b, 4, none⟩ = some x4 ∧ w.cell? ⟨b, 5, none⟩ = some x5 ∧ w.cell? ⟨b, 6, none⟩ = some x6 ∧ w.cell? ⟨b, 7, none⟩ = some x7 ∧ (∀ i, w.frozen? ⟨b, i, none⟩ = false) ∧ b < w.heap.size :=
  ⟨(cells_at h).1 0 x0 rfl, (cells_at h).1 1 x1 rfl, (cells_at h).1 2 x2 rfl, (cells_at h).1 3 x3 rfl, (cells_at h).1 4 x4 rfl, (cells_at h).1 5 x5 rfl, (cells_at h).1 6 x6 rfl, (cells_at h).1 7 x7 rfl, (cells_at h).2.1, (cells_at h).2.2⟩
theorem cells_at9 {w : World} {b : Nat} {x0 x1 x2 x3 x4 x5 x6 x7 x8 : Value} {t : TypeId} (h : w.heap[b]? = some (.cells #[x0, x1, x2, x3, x4, x5, x6, x7, x8] t)) :
    w.cell? ⟨b, 0, none⟩ = some x0 ∧ w.cell? ⟨b, 1, none⟩ = some x1 ∧ w.cell? ⟨b, 2, none⟩ = some x2 ∧ w.cell? ⟨b, 3, none⟩ = some x3 ∧ w.cell? ⟨b, 4, none⟩ = some x4 ∧ w.cell? ⟨b, 5, none⟩ = some x5 ∧ w.cell? ⟨b, 6, none⟩ = some x6 ∧ w.cell? ⟨b, 7, none⟩ = some x7 ∧ w.cell? ⟨b, 8, none⟩ = some x8 ∧ (∀ i, w.frozen? ⟨b, i, none⟩ = false) ∧ b < w.heap.size :=
  ⟨(cells_at h).1 0 x0 rfl, (cells_at h).1 1 x1 rfl, (cells_at h).1 2 x2 rfl, (cells_at h).1 3 x3 rfl, (cells_at h).1 4 x4 rfl, (cells_at h).1 5 x5 rfl, (cells_at h).1 6 x6 rfl, (cells_at h).1 7 x7 rfl, (cells_at h).1 8 x8 rfl, (cells_at h).2.1, (cells_at h).2.2⟩
end Go.Proofs.Ytpjdmjmgkdgfnaa
