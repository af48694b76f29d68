/-
  Arrays and rows of ints, as cells that are not written out: made, read, stored to. Conditions: none. By an AI agent.
-/
import Derived.Test.YtpkgadjglidnaaaDoorSeq
import Derived.Test.YtpkgadjglidnaaaDoorCells
import Derived.Test.YtpkgadjglidnaaaDoorCabP
import Derived.Laws.Rows
import Derived.Laws.Tables
import Derived.Laws.MakeOwn
import Derived.Deep.OwnRows
namespace Go.Proofs.YtpkgadjglidnaaaDoor
open Go Go.ChangeShapes Go.WideShapes Go.RowKit Go.ChangeAt
set_option linter.unusedVariables false

def arrI (k : Nat) (F : Nat → Int) : Array Value := ((List.range k).map fun i => Value.int .i64 (F i)).toArray
theorem arrI_size (k : Nat) (F : Nat → Int) : (arrI k F).size = k := by simp [arrI]
theorem arrI_at {k i : Nat} (F : Nat → Int) (h : i < k) : (arrI k F)[i]? = some (.int .i64 (F i)) := by simp [arrI, h]
theorem arrI_congr {k : Nat} {F G : Nat → Int} (h : ∀ i, i < k → F i = G i) : arrI k F = arrI k G := by
  unfold arrI
  congr 1
  exact List.map_congr_left fun i hi => by rw [h i (List.mem_range.1 hi)]
theorem arrI_set {k i : Nat} {F : Nat → Int} {x : Int} : (arrI k F).setIfInBounds i (.int .i64 x) = arrI k (updN F i x) := by
  apply Array.ext_getElem?
  intro j
  by_cases hj : j < k
  · rw [arrI_at _ hj]
    by_cases e : i = j
    · subst e
      rw [Array.getElem?_setIfInBounds_self_of_lt (by rw [arrI_size]; exact hj), updN_same]
    · rw [Array.getElem?_setIfInBounds_ne e, arrI_at _ hj, updN_other (fun h => e h.symm)]
  · rw [Array.getElem?_eq_none (by simp [arrI_size]; omega), Array.getElem?_eq_none (by simp [arrI_size]; omega)]
theorem arrI_one (k : Nat) (F : Nat → Int) : (arrI k F).all (fun v => v.oneCell') = true := by
  simp [arrI, Value.oneCell']
theorem setArr {w : World} {b i k : Nat} {F : Nat → Int} {x : Int} {t : TypeId} (h : w.heap[b]? = some (.cells (arrI k F) t)) : (w.setCell ⟨b, i, none⟩ (.int .i64 x)).heap[b]? = some (.cells (arrI k (updN F i x)) t) := by
  rw [heap_setCell_same w b i _ t _ h, arrI_set]
theorem arr_cell {w : World} {b k : Nat} {F : Nat → Int} {t : TypeId} (h : w.heap[b]? = some (.cells (arrI k F) t)) {i : Nat} (hi : i < k) : w.cell? ⟨b, i, none⟩ = some (.int .i64 (F i)) := by
  rw [cell_of_row w b i _ t (0, 0) h]; exact arrI_at F hi
theorem arr_frozen {w : World} {b k : Nat} {F : Nat → Int} {t : TypeId} (h : w.heap[b]? = some (.cells (arrI k F) t)) (i : Nat) : w.frozen? ⟨b, i, none⟩ = false := frozen_of_row w b i _ t h
theorem block_lt {w : World} {b : Nat} {o : Obj} (h : w.heap[b]? = some o) : b < w.heap.size := (Array.getElem?_eq_some_iff.1 h).1

theorem wpList_alloc_all {P : Program} {ops : Array Oper} {rest : List Oper} {o : Oper} {a : Act} {w : World} {Q : Exit → Act → World → Prop} (hgd : o.guard = none) (t : TypeId) (ho : o.op = .alloc t) (zs : Array Value)
    (hz : ∀ w, (zeroValue t).run P w = .ok (.agg zs) w) (h : wpList P ops Q rest (a.put o.dst (.pointer (some ⟨w.heap.size, 0, none⟩))) (w.alloc (.cells zs t))) : wpList P ops Q (o :: rest) a w := by
  refine wpList_plain hgd fun K hK => ?_
  have hk := hK _ _ h
  unfold Oper.wp execOp
  simp [ho, Instr.alloc, hz, go_sem, Value.cells, Result.andThen]
  exact hk
def arrB (k : Nat) (F : Nat → Bool) : Array Value := ((List.range k).map fun i => Value.bool (F i)).toArray
def updB (F : Nat → Bool) (k : Nat) (x : Bool) : Nat → Bool := fun i => if i = k then x else F i
theorem arrB_size (k : Nat) (F : Nat → Bool) : (arrB k F).size = k := by simp [arrB]
theorem arrB_at {k i : Nat} (F : Nat → Bool) (h : i < k) : (arrB k F)[i]? = some (.bool (F i)) := by simp [arrB, h]
theorem arrB_congr {k : Nat} {F G : Nat → Bool} (h : ∀ i, i < k → F i = G i) : arrB k F = arrB k G := by
  unfold arrB
  congr 1
  exact List.map_congr_left fun i hi => by rw [h i (List.mem_range.1 hi)]
theorem arrB_set {k i : Nat} {F : Nat → Bool} {x : Bool} : (arrB k F).setIfInBounds i (.bool x) = arrB k (updB F i x) := by
  apply Array.ext_getElem?
  intro j
  by_cases hj : j < k
  · rw [arrB_at _ hj]
    by_cases e : i = j
    · subst e
      rw [Array.getElem?_setIfInBounds_self_of_lt (by rw [arrB_size]; exact hj)]
      simp [updB]
    · rw [Array.getElem?_setIfInBounds_ne e, arrB_at _ hj]
      simp [updB]
      exact fun h => absurd h.symm e
  · rw [Array.getElem?_eq_none (by simp [arrB_size]; omega), Array.getElem?_eq_none (by simp [arrB_size]; omega)]
theorem setArrB {w : World} {b i k : Nat} {F : Nat → Bool} {x : Bool} {t : TypeId} (h : w.heap[b]? = some (.cells (arrB k F) t)) : (w.setCell ⟨b, i, none⟩ (.bool x)).heap[b]? = some (.cells (arrB k (updB F i x)) t) := by
  rw [heap_setCell_same w b i _ t _ h, arrB_set]
theorem arrB_cell {w : World} {b k : Nat} {F : Nat → Bool} {t : TypeId} (h : w.heap[b]? = some (.cells (arrB k F) t)) {i : Nat} (hi : i < k) : w.cell? ⟨b, i, none⟩ = some (.bool (F i)) := by
  rw [cell_of_row w b i _ t (0, 0) h]; exact arrB_at F hi
theorem madeI (n : Nat) : madeCells #[.int .i64 0] n = arrI n (fun _ => 0) := by
  apply Array.ext_getElem?
  intro j
  by_cases hj : j < n
  · rw [arrI_at _ hj]
    simp [madeCells, hj, Nat.mod_one]
  · rw [Array.getElem?_eq_none (by simp [madeCells]; omega), Array.getElem?_eq_none (by simp [arrI_size]; omega)]
theorem madeB (n : Nat) : madeCells #[.bool false] n = arrB n (fun _ => false) := by
  apply Array.ext_getElem?
  intro j
  by_cases hj : j < n
  · rw [arrB_at _ hj]
    simp [madeCells, hj, Nat.mod_one]
  · rw [Array.getElem?_eq_none (by simp [madeCells]; omega), Array.getElem?_eq_none (by simp [arrB_size]; omega)]
theorem info1_parts {i? : Option TypeInfo} {z : Value} {s b : Nat} (h : i?.map (fun i => (i.zero, i.size, i.bytes)) = some (some z, s, b)) : ∃ i, i? = some i ∧ i.zero = some z ∧ i.size = s ∧ i.bytes = b := by
  cases i? with
  | none => cases h
  | some i => simp only [Option.map_some, Option.some.injEq, Prod.mk.injEq] at h; exact ⟨i, rfl, h.1, h.2.1, h.2.2⟩
theorem info_int : (Tryd.prog.info? 3).map (fun i => (i.zero, i.size, i.bytes)) = some (some (.int .i64 0), 1, 8) := by kernel_rfl
theorem info_bool : (Tryd.prog.info? 4).map (fun i => (i.zero, i.size, i.bytes)) = some (some (.bool false), 1, 1) := by kernel_rfl
/-- the measure's number, off the memory -/
def leftW (w : World) (b : Nat) : Nat := sumN (fun i => match w.cell? ⟨b, i, none⟩ with | some (.int _ x) => if x < 0 then 1073741824 else x.toNat | _ => 0) 256
theorem leftW_arr {w : World} {b : Nat} {F : Nat → Int} {t : TypeId} (h : w.heap[b]? = some (.cells (arrI 256 F) t)) : leftW w b = leftN F := by
  unfold leftW leftN
  apply Nat.le_antisymm
  · exact sumN_le fun i hi => by rw [arr_cell h hi]; exact Nat.le_refl _
  · exact sumN_le fun i hi => by rw [arr_cell h hi]; exact Nat.le_refl _
end Go.Proofs.YtpkgadjglidnaaaDoor
