/-
  What a map of pairs reads as, against a list of pairs. Conditions: none. By an AI agent.
-/
import Derived.Test.YtpjdmjmgkdgfnaaMapA
import Derived.Maps.Views
namespace Go.Proofs.Ytpjdmjmgkdgfnaa
open Go Go.RowKit
set_option linter.unusedVariables false
set_option linter.unusedSimpArgs false
def kE (e : E2) : Lit := .string (keyBytes [.int .i64 e.1, .int .i64 e.2])
def wfE (e : E2) : Prop := (Lit.int .i64 e.1).wf = true ∧ (Lit.int .i64 e.2).wf = true
theorem keyE {e : E2} (h : wfE e) : keyOf Try.prog 67 (.agg #[.int .i64 e.1, .int .i64 e.2]) = some (kE e) := key2 e.1 e.2 h.1 h.2
theorem kE_inj {a b : E2} (ha : wfE a) (hb : wfE b) (h : kE a = kE b) : a = b := by
  have h1 := keyed2.inj (keyE ha) (h ▸ keyE hb)
  simp only [Value.agg.injEq, Array.mk.injEq, List.cons.injEq, Value.int.injEq, true_and, and_true] at h1
  exact Prod.ext h1.1 h1.2
/-- the map holds the pairs of the list, each with 'true' -/
def MapIs {H : Type} (D : DataW H) (L : List E2) : Prop :=
  Maps.IsMap D ∧ ∀ e, wfE e → D.atKey (kE e) (.lit (.bool false)) = .lit (.bool (decide (e ∈ L))) ∧ Maps.has D (kE e) = decide (e ∈ L)
theorem MapIs.nil {H : Type} : MapIs (.map [] : DataW H) [] := ⟨Maps.isMap_empty, fun e he => by
  have h : Maps.has (.map [] : DataW H) (kE e) = false := rfl
  exact ⟨by rw [Maps.atKey_of_not_has h]; simp, by rw [h]; simp⟩⟩
theorem MapIs.put {H : Type} {D : DataW H} {L : List E2} {e : E2} (h : MapIs D L) (he : wfE e) : MapIs (D.put (kE e) (.lit (.bool true))) (L ++ [e]) := by
  have hk := keyed2.key (keyE he)
  refine ⟨h.1.put _ _, fun f hf => ?_⟩
  by_cases hfe : f = e
  · subst hfe
    rw [Maps.atKey_put_same h.1 hk, Maps.has_put_same h.1 hk]
    simp
  · have hne : kE f ≠ kE e := fun hh => hfe (kE_inj hf he hh)
    rw [Maps.atKey_put_other hne, Maps.has_put_other hne, (h.2 f hf).1, (h.2 f hf).2]
    simp [hfe]
theorem wfE_of {np : Nat} {e : E2} (h1 : 0 ≤ e.1 ∧ e.1 < np) (h2 : 0 ≤ e.2 ∧ e.2 < np) (hn : np ≤ 1024) : wfE e := by
  unfold wfE Lit.wf
  have m1 : IntKind.i64.min = -9223372036854775808 := by decide
  have m2 : IntKind.i64.max = 9223372036854775807 := by decide
  simp [m1, m2]
  omega
end Go.Proofs.Ytpjdmjmgkdgfnaa
