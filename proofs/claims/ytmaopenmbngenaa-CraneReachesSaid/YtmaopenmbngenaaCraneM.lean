/-
  Arguments that are arrays of ints, opened. Conditions: none. By an AI agent.
-/
import Derived.Test.YtmaopenmbngenaaCraneL
namespace Go.Proofs.Ytmaopenmbngenaa
open Go Go.ChangeShapes Go.WideShapes Go.RowKit Go.ChangeAt
set_option linter.unusedSimpArgs false
set_option linter.unusedVariables false

theorem okWide_array {P : Program} {w : World} {r : Reach} {base : Nat} {t e : TypeId} {n : Nat} {v : Value} (ht : P.underlying t = some (.array n e)) (h : Value.okWide P w r base t v) : ∃ cs, v = .agg cs ∧ cs.size = P.cellsOf t := by
  simp only [Value.okWide, ht] at h
  obtain ⟨cs, h1, h2, _⟩ := h
  exact ⟨cs, h1, h2⟩
theorem flat_open_array {H : Type} {enc : TypeId × Value → H} {P : Program} {w : World} {base : Nat} {spare : Nat → Bool} {held : Bool} {n : Nat} {t e : TypeId} {k m : Nat} {v : Value} {d : DataW H} {ps : List MemPlace} {r : Reach} {b0 : Nat}
    (hu : P.underlying t = some (.array m e)) (hc : P.cellsOf t = k) (hfl : flatB P n t = true) (hv : Value.okWide P w r b0 t v) (h : DataW.Trod enc P w base spare held t v d ps) :
    ∃ zs : List Int, v = .agg (zs.map (Value.int .i64)).toArray ∧ zs.length = k ∧ ∀ z ∈ zs, -9223372036854775808 ≤ z ∧ z ≤ 9223372036854775807 := by
  obtain ⟨⟨l⟩, rfl, hsz⟩ := okWide_array hu hv
  obtain ⟨fuel, hf⟩ := h
  have hcells := flat_cells n t hfl fuel l _ (by simpa [Value.cells] using hf)
  have : ∀ l : List Value, (∀ v ∈ l, ∃ z : Int, v = .int .i64 z ∧ (Lit.int .i64 z).wf = true) → ∃ zs : List Int, l = zs.map (Value.int .i64) ∧ ∀ z ∈ zs, -9223372036854775808 ≤ z ∧ z ≤ 9223372036854775807 := by
    intro l
    induction l with
    | nil => exact fun _ => ⟨[], rfl, by simp⟩
    | cons v l ih =>
      intro h
      obtain ⟨zs, hz, hb⟩ := ih (fun v hv => h v (by simp [hv]))
      obtain ⟨z, hv, hw⟩ := h v (by simp)
      refine ⟨z :: zs, by simp [hv, hz], ?_⟩
      intro y hy
      rcases List.mem_cons.1 hy with rfl | hy
      · simpa [Lit.wf, IntKind.min, IntKind.max, IntKind.signed, IntKind.bits] using hw
      · exact hb y hy
  obtain ⟨zs, rfl, hb⟩ := this l hcells
  exact ⟨zs, rfl, by simpa using hsz.trans hc, hb⟩
theorem list2 {l : List Int} (h : l.length = 2) : ∃ a b, l = [a, b] := by
  match l, h with
  | [a, b], _ => exact ⟨a, b, rfl⟩
end Go.Proofs.Ytmaopenmbngenaa
