/-
  Arguments of any nested type, opened cell by cell: each cell reads as its own type says. Conditions: none. By an AI agent.
-/
import Derived.Test.YtgbhhjdmochhpaaGreatDoorOpen
import Derived.Test.YtgbhhjdmochhpaaGreatDoorSlices
namespace Go.Proofs.YtgbhhjdmochhpaaGreatDoor
open Go Go.ChangeShapes Go.WideShapes Go.RowKit Go.ChangeAt Go.Deep Go.Joins
set_option linter.unusedVariables false
set_option linter.unusedSimpArgs false

/-- the type of a cell of a value -/
def leafAt (P : Program) : Nat → TypeId → Nat → Option TypeId
  | 0, _, _ => none
  | n + 1, t, j => match P.underlying t with
    | some (.struct fs) => fs.toList.findSome? fun f => if f.offset ≤ j ∧ j < f.offset + P.cellsOf f.type then leafAt P n f.type (j - f.offset) else none
    | some (.array m e) => if 0 < P.cellsOf e ∧ P.cellsOf t = m * P.cellsOf e then leafAt P n e (j % P.cellsOf e) else none
    | some (.int _) => if j = 0 then some t else none
    | some .bool => if j = 0 then some t else none
    | some .string => if j = 0 then some t else none
    | some (.slice _) => if j = 0 then some t else none
    | _ => none

section
variable {H : Type} {enc : TypeId × Value → H} {P : Program} {w : World} {base : Nat} {spare : Nat → Bool} {held : Bool}
theorem window_get {cs : List Value} {o k j : Nat} (h1 : o ≤ j) (h2 : j < o + k) : ((cs.drop o).take k)[j - o]? = cs[j]? := by
  rw [List.getElem?_take_of_lt (by omega), List.getElem?_drop, show o + (j - o) = j by omega]
theorem leaf_of : ∀ (n : Nat) (t : TypeId) (j : Nat) (u : TypeId), leafAt P n t j = some u → ∀ (fuel : Nat) (cs : List Value) (x : DataW H × List MemPlace) (v : Value),
    DataW.trod enc P w base spare held fuel t cs = some x → cs[j]? = some v → ∃ fuel' x', DataW.trod enc P w base spare held fuel' u [v] = some x'
  | 0, _, _, _, h, _, _, _, _, _, _ => by simp [leafAt] at h
  | n + 1, t, j, u, h, fuel, cs, x, v, hx, hv => by
    unfold leafAt at h
    split at h
    · rename_i fs hu
      obtain ⟨xs, m, _, _, hlen, hxl, hf⟩ := DataW.trod_struct hu hx
      obtain ⟨f, hfm, hfs⟩ := List.exists_of_findSome?_eq_some h
      split at hfs
      · rename_i hcond
        obtain ⟨i, hi, hfi⟩ := List.mem_iff_getElem.1 hfm
        have h3 := hf i f (by simp at hi; rw [← hfi]; simp)
        have hi' : i < xs.length := by rw [hxl]; simpa using hi
        rw [List.getElem?_eq_getElem hi'] at h3
        exact leaf_of n f.type _ u hfs m _ _ v h3 (by rw [window_get hcond.1 hcond.2]; exact hv)
      · cases hfs
    · rename_i m e hu
      split at h
      · rename_i hc
        obtain ⟨xs, k, _, _, hlen, hxl, hf⟩ := DataW.trod_array hu hx
        obtain ⟨hc0, hc1⟩ := hc
        have hj : j < cs.length := (List.getElem?_eq_some_iff.1 hv).1
        have hq : j / P.cellsOf e < m := by
          apply Nat.div_lt_of_lt_mul
          rw [Nat.mul_comm, ← hc1, ← hlen]; exact hj
        have h4 := hf _ hq
        rw [List.getElem?_eq_getElem (by omega)] at h4
        have hd := Nat.div_add_mod j (P.cellsOf e)
        have hmod := Nat.mod_lt j hc0
        rw [Nat.mul_comm] at hd
        refine leaf_of n e _ u h k _ _ v h4 ?_
        rw [← hv, ← window_get (cs := cs) (o := j / P.cellsOf e * P.cellsOf e) (k := P.cellsOf e) (j := j) (by omega) (by omega)]
        congr 1
        omega
      · cases h
    · rename_i k hu
      split at h
      · rename_i hj
        subst hj
        cases h
        obtain ⟨z, rfl, hx2, _⟩ := DataW.trod_int hu hx
        obtain rfl : v = .int k z := by simpa using hv.symm
        exact ⟨fuel, x, hx⟩
      · cases h
    · rename_i hu
      split at h
      · rename_i hj
        subst hj
        cases h
        obtain ⟨z, rfl, hx2⟩ := DataW.trod_bool hu hx
        obtain rfl : v = .bool z := by simpa using hv.symm
        exact ⟨fuel, x, hx⟩
      · cases h
    · rename_i hu
      split at h
      · rename_i hj
        subst hj
        cases h
        obtain ⟨z, rfl, hx2, _⟩ := DataW.trod_string hu hx
        obtain rfl : v = .string z := by simpa using hv.symm
        exact ⟨fuel, x, hx⟩
      · cases h
    · rename_i e hu
      split at h
      · rename_i hj
        subst hj
        cases h
        rcases open_slice hu hx with ⟨rfl, _⟩ | ⟨a, len, cap, m, n, D, Pl, rfl, _⟩
        · obtain rfl : v = .slice none 0 0 := by simpa using hv.symm
          exact ⟨fuel, x, hx⟩
        · obtain rfl : v = .slice (some a) len cap := by simpa using hv.symm
          exact ⟨fuel, x, hx⟩
      · cases h
    · cases h
theorem leaf_int {k : IntKind} {u : TypeId} {fuel : Nat} {v : Value} {x : DataW H × List MemPlace} (hu : P.underlying u = some (.int k)) (h : DataW.trod enc P w base spare held fuel u [v] = some x) : ∃ z, v = .int k z ∧ (Lit.int k z).wf = true := by
  obtain ⟨z, e, _, hw⟩ := DataW.trod_int hu h
  exact ⟨z, by simpa using e, hw⟩
theorem leaf_i64 {u : TypeId} {fuel : Nat} {v : Value} {x : DataW H × List MemPlace} (hu : P.underlying u = some (.int .i64)) (h : DataW.trod enc P w base spare held fuel u [v] = some x) : ∃ z : Int, v = .int .i64 z ∧ -9223372036854775808 ≤ z ∧ z ≤ 9223372036854775807 := by
  obtain ⟨z, e, hw⟩ := leaf_int hu h
  exact ⟨z, e, by simpa [Lit.wf, IntKind.min, IntKind.max, IntKind.signed, IntKind.bits] using hw⟩
theorem leaf_string {u : TypeId} {fuel : Nat} {v : Value} {x : DataW H × List MemPlace} (hu : P.underlying u = some .string) (h : DataW.trod enc P w base spare held fuel u [v] = some x) : ∃ s : ByteArray, v = .string s ∧ s.size ≤ 9223372036854775807 := by
  obtain ⟨s, e, _, hs⟩ := DataW.trod_string hu h
  exact ⟨s, by simpa using e, by unfold maxLen at hs; omega⟩
theorem leaf_bool {u : TypeId} {fuel : Nat} {v : Value} {x : DataW H × List MemPlace} (hu : P.underlying u = some .bool) (h : DataW.trod enc P w base spare held fuel u [v] = some x) : ∃ s : Bool, v = .bool s := by
  obtain ⟨s, e, _⟩ := DataW.trod_bool hu h
  exact ⟨s, by simpa using e⟩
/-- the cells of a slice's elements -/
theorem leaf_slice {t e : TypeId} {sz fuel : Nat} {v : Value} {x : DataW H × List MemPlace} (ht : P.underlying t = some (.slice e)) (hC : P.cellsOf e = sz) (h : DataW.trod enc P w 0 spare held fuel t [v] = some x) :
    v = .slice none 0 0 ∨ ∃ a len cap, v = .slice (some a) len cap ∧ len ≤ cap ∧ cap ≤ maxLen ∧ ∀ i, i < len → ∀ j, j < sz → ∃ c, w.cell? (a.add (i * sz + j)) = some c ∧
      ∀ n u, leafAt P n e j = some u → ∃ fuel' x', DataW.trod enc P w 0 spare held fuel' u [c] = some x' := by
  rcases open_slice ht h with ⟨h0, _⟩ | ⟨a, len, cap, m, n, D, Pl, hcs, _, hl, hm, hmm, _, hi⟩
  · exact .inl (by simpa using h0)
  · refine .inr ⟨a, len, cap, by simpa using hcs, hl, hm, fun i hil j hj => ?_⟩
    have hmc : len ≤ m := by rw [hmm]; split <;> omega
    obtain ⟨cs, hc, hd⟩ := hi i (by omega)
    rw [hC] at hc
    obtain ⟨_, hlen, hat⟩ := World.cells?_some hc
    have hlt : j < cs.length := by omega
    have e0 := hat j hj
    rw [add_add] at e0
    refine ⟨cs[j], by rw [e0, List.getElem?_eq_getElem hlt], fun n' u hu => leaf_of n' e j u hu n cs _ cs[j] hd (List.getElem?_eq_getElem hlt)⟩
/-- the cells of a struct argument -/
theorem leaf_struct {t : TypeId} {fs : Array Field} {k : Nat} {v : Value} {d : DataW H} {ps : List MemPlace} {r : Reach} {b0 : Nat} (hu : P.underlying t = some (.struct fs)) (hc : P.cellsOf t = k) (hv : Value.okWide P w r b0 t v) (h : DataW.Trod enc P w base spare held t v d ps) :
    ∃ cs : List Value, v = .agg cs.toArray ∧ cs.length = k ∧ ∀ j c, cs[j]? = some c → ∀ n u, leafAt P n t j = some u → ∃ fuel' x', DataW.trod enc P w base spare held fuel' u [c] = some x' := by
  obtain ⟨⟨l⟩, rfl, hsz⟩ := okWide_struct hu hv
  obtain ⟨fuel, hf⟩ := h
  exact ⟨l, rfl, by simpa using hsz.trans hc, fun j c hj n u hu' => leaf_of n t j u hu' fuel l _ c (by simpa [Value.cells] using hf) hj⟩
/-- a slice argument -/
theorem leaf_trod {t e : TypeId} {v : Value} {d : DataW H} {ps : List MemPlace} {r : Reach} {b0 : Nat} (ht : P.underlying t = some (.slice e)) (hv : Value.okWide P w r b0 t v) (h : DataW.Trod enc P w base spare held t v d ps) :
    ∃ fuel, DataW.trod enc P w base spare held fuel t [v] = some (d, ps) := by
  obtain ⟨a0, len0, cap0, hv0⟩ := okWide_slice ht hv
  obtain ⟨fuel, hf0⟩ := h
  exact ⟨fuel, by rw [hv0] at hf0 ⊢; exact hf0⟩
end
end Go.Proofs.YtgbhhjdmochhpaaGreatDoor
