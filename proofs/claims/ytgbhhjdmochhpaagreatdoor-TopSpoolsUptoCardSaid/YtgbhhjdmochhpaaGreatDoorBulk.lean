/-
  What the bound on the bulk gives of a catalog. Conditions: none. By an AI agent.
-/
import Derived.Test.YtgbhhjdmochhpaaGreatDoorLeaf
import Derived.Test.YtgbhhjdmochhpaaGreatDoorStockP
import Derived.Test.YtgbhhjdmochhpaaGreatDoorRows
import Derived.Deep.Slices
namespace Go.Proofs.YtgbhhjdmochhpaaGreatDoor
open Go Go.ChangeShapes Go.WideShapes Go.RowKit Go.ChangeAt Go.Deep
set_option linter.unusedVariables false
set_option linter.unusedSimpArgs false
theorem bulk_one {H : Type} (d : DataW H) : 1 ≤ Rows.uptoBulk d := by
  cases d with
  | lit l => cases l <;> simp [Rows.uptoBulk]
  | nil => simp [Rows.uptoBulk]
  | ptr d => simp [Rows.uptoBulk]
  | slice elems spare => simp [Rows.uptoBulk]
  | agg parts => simp [Rows.uptoBulk]
  | iface t d => simp [Rows.uptoBulk]
  | map entries => simp [Rows.uptoBulk]
  | held h => simp [Rows.uptoBulk]
theorem bulk_part {H : Type} {d : DataW H} {l : List (DataW H)} (h : d ∈ l) : Rows.uptoBulk d ≤ Rows.uptoBulkAll l := by
  induction l with
  | nil => cases h
  | cons x r ih =>
    simp only [Rows.uptoBulkAll]
    cases List.mem_cons.1 h with
    | inl e => subst e; omega
    | inr e => have := ih e; omega
theorem bulk_len {H : Type} (l : List (DataW H)) : l.length ≤ Rows.uptoBulkAll l := by
  induction l with
  | nil => simp [Rows.uptoBulkAll]
  | cons x r ih => have := bulk_one x; simp only [Rows.uptoBulkAll, List.length_cons]; omega
theorem bulk_agg {H : Type} {d : DataW H} {l : List (DataW H)} (h : d ∈ l) : Rows.uptoBulk d ≤ Rows.uptoBulk (.agg l) := by
  have := bulk_part h
  simp only [Rows.uptoBulk]
  omega
theorem bulk_elem {H : Type} {d : DataW H} {l r : List (DataW H)} (h : d ∈ l) : Rows.uptoBulk d ≤ Rows.uptoBulk (.slice l r) := by
  have := bulk_part h
  simp only [Rows.uptoBulk]
  omega
theorem bulk_slice {H : Type} (l r : List (DataW H)) : l.length ≤ Rows.uptoBulk (.slice l r) := by
  have := bulk_len l
  simp only [Rows.uptoBulk]
  omega
section
variable {H : Type} {enc : TypeId × Value → H} {W : World}
/-- a slice's length is at most its reading's bulk -/
theorem slice_bulk {t e : TypeId} {fuel : Nat} {o : Option Addr} {n c : Nat} {x : DataW H × List MemPlace} (ht : Tryz.prog.underlying t = some (.slice e)) (h : DataW.trod enc Tryz.prog W 0 (fun _ => true) true fuel t [.slice o n c] = some x) : n ≤ Rows.uptoBulk x.1 := by
  rcases open_slice ht h with ⟨e, _⟩ | ⟨a, len, cap, m, k, D, Pl, hcs, _, hl, hm, hmm, hx, hi⟩
  · simp only [List.cons.injEq, Value.slice.injEq] at e
    omega
  · simp only [List.cons.injEq, Value.slice.injEq] at hcs
    rw [hx]
    show n ≤ Rows.uptoBulk (DataW.slice ((List.range len).map D) ((List.range (m - len)).map fun j => D (len + j)))
    have := bulk_slice ((List.range len).map D) ((List.range (m - len)).map fun j => D (len + j))
    simp only [List.length_map, List.length_range] at this
    omega
set_option maxRecDepth 100000 in
theorem gauges_bulk {fuel : Nat} {a : Addr} {n c : Nat} {x : DataW H × List MemPlace} (h : DataW.trod enc Tryz.prog W 0 (fun _ => true) true fuel 23 [.slice (some a) n c] = some x) {i : Nat} (hi : i < n) {o : Option Addr} {k d : Nat} (hc : W.cell? (a.add (i * 4 + 3)) = some (.slice o k d)) : k ≤ Rows.uptoBulk x.1 := by
  rcases open_slice (e := 31) (by kernel_rfl) h with ⟨e, _⟩ | ⟨a', len, cap, m, f, D, Pl, hcs, _, hl, hm, hmm, hx, hel⟩
  · simp at e
  · simp only [List.cons.injEq, Value.slice.injEq, Option.some.injEq] at hcs
    obtain ⟨⟨rfl, rfl, rfl⟩, -⟩ := hcs
    have hmn : i < m := by rw [hmm]; split <;> omega
    obtain ⟨cs, h1, h2⟩ := hel i hmn
    rw [show Tryz.prog.cellsOf 31 = 4 by kernel_rfl] at h1
    obtain ⟨_, hlen, hat⟩ := World.cells?_some h1
    match cs, hlen, hat, h2 with
    | [c0, c1, c2, c3], _, hat, h2 =>
      obtain ⟨xs, q, _, hx2, hlen2, hxl, hfs⟩ := DataW.trod_struct (fs := Tryz.prog.fieldsOf 31) (by kernel_rfl) h2
      have h0 := hfs 3 ((Tryz.prog.fieldsOf 31)[3]!) (by kernel_rfl)
      rw [show (Tryz.prog.fieldsOf 31)[3]!.type = 29 by kernel_rfl, show (Tryz.prog.fieldsOf 31)[3]!.offset = 3 by kernel_rfl, show Tryz.prog.cellsOf 29 = 1 by kernel_rfl] at h0
      have hsz : (Tryz.prog.fieldsOf 31).size = 4 := by kernel_rfl
      rw [hsz] at hxl
      have e3 := hat 3 (by omega)
      rw [add_add] at e3
      rw [hc] at e3
      have e4 : c3 = .slice o k d := by simpa using e3.symm
      subst e4
      match xs, hxl, hx2, h0 with
      | [x0, x1, x2, x3], _, hx2, h0 =>
        have h0' : DataW.trod enc Tryz.prog W 0 (fun _ => true) true q 29 [.slice o k d] = some x3 := h0
        have b1 := slice_bulk (t := 29) (e := 3) (by kernel_rfl) h0'
        have hd : D i = DataW.agg [x0.1, x1.1, x2.1, x3.1] := by simpa using congrArg Prod.fst hx2
        have b2 : Rows.uptoBulk x3.1 ≤ Rows.uptoBulk (D i) := by rw [hd]; exact bulk_agg (by simp)
        have b3 : Rows.uptoBulk (D i) ≤ Rows.uptoBulk x.1 := by
          rw [hx]
          exact bulk_elem (List.mem_map.2 ⟨i, by simpa using hi, rfl⟩)
        omega
set_option maxRecDepth 100000 in
theorem mat_bulk {og os : Option Addr} {ng cg ns cs : Nat} {d : DataW H} {ps : List MemPlace} (h : DataW.Trod enc Tryz.prog W 0 (fun _ => true) true 26 (.agg #[.slice og ng cg, .slice os ns cs]) d ps) :
    ng ≤ Rows.uptoBulk d ∧ ns ≤ Rows.uptoBulk d ∧ ∀ a, og = some a → ∀ i, i < ng → ∀ o k c, W.cell? (a.add (i * 4 + 3)) = some (.slice o k c) → k ≤ Rows.uptoBulk d := by
  obtain ⟨fuel, hf⟩ := h
  obtain ⟨xs, m, _, hx, hlen, hxl, hfs⟩ := DataW.trod_struct (fs := Tryz.prog.fieldsOf 26) (by kernel_rfl) hf
  have h0 := hfs 0 ((Tryz.prog.fieldsOf 26)[0]!) (by kernel_rfl)
  have h1 := hfs 1 ((Tryz.prog.fieldsOf 26)[1]!) (by kernel_rfl)
  rw [show (Tryz.prog.fieldsOf 26)[0]!.type = 23 by kernel_rfl, show (Tryz.prog.fieldsOf 26)[0]!.offset = 0 by kernel_rfl, show Tryz.prog.cellsOf 23 = 1 by kernel_rfl] at h0
  rw [show (Tryz.prog.fieldsOf 26)[1]!.type = 24 by kernel_rfl, show (Tryz.prog.fieldsOf 26)[1]!.offset = 1 by kernel_rfl, show Tryz.prog.cellsOf 24 = 1 by kernel_rfl] at h1
  have hsz : (Tryz.prog.fieldsOf 26).size = 2 := by kernel_rfl
  rw [hsz] at hxl
  match xs, hxl, hx, h0, h1 with
  | [x0, x1], _, hx, h0, h1 =>
    have h0' : DataW.trod enc Tryz.prog W 0 (fun _ => true) true m 23 [.slice og ng cg] = some x0 := h0
    have h1' : DataW.trod enc Tryz.prog W 0 (fun _ => true) true m 24 [.slice os ns cs] = some x1 := h1
    have hd : d = DataW.agg [x0.1, x1.1] := by simpa using congrArg Prod.fst hx
    have b0 : Rows.uptoBulk x0.1 ≤ Rows.uptoBulk d := by rw [hd]; exact bulk_agg (by simp)
    have b1 : Rows.uptoBulk x1.1 ≤ Rows.uptoBulk d := by rw [hd]; exact bulk_agg (by simp)
    have g0 := slice_bulk (t := 23) (e := 31) (by kernel_rfl) h0'
    have g1 := slice_bulk (t := 24) (e := 33) (by kernel_rfl) h1'
    refine ⟨by omega, by omega, fun a ha i hi o k c hc => ?_⟩
    subst ha
    have := gauges_bulk h0' hi hc
    omega
end
end Go.Proofs.YtgbhhjdmochhpaaGreatDoor
