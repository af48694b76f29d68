/-
  What few says of the sizes. Conditions: none. By an AI agent.
-/
import Derived.Test.YtiddpaaihloopaaDoorStockR
import Derived.Test.YtiddpaaihloopaaDoorAwake29
namespace Go.Proofs.YtiddpaaihloopaaDoor
open Go Go.ChangeShapes Go.WideShapes Go.RowKit Go.ChangeAt
set_option linter.unusedSimpArgs false
set_option linter.unusedVariables false
theorem same_self (v : Value) (ns : Nat) (es : Nat → Sh) (nb : Nat) (eb : Nat → Br) (w : World) (h : StAt w v ns es nb eb) :
    Calls Tryd.prog 12 #[v, v] w fun e w' => e = .returned (.bool true) ∧ Below w.heap.size w w' := by
  have h1 : sameS ns es nb eb ns es nb eb = true := by
    unfold sameS
    rw [(sameB_iff (fun x y => Sh.eqB_iff)).2 ⟨rfl, fun i hi => rfl⟩, (sameB_iff (fun x y => Br.eqB_iff)).2 ⟨rfl, fun i hi => rfl⟩]
    rfl
  have := same_any v v ns es nb eb ns es nb eb w h h
  rw [h1] at this
  exact this
/-- few: what it says of the sizes -/
theorem few_sizes {ns : Nat} {es : Nat → Sh} {nb : Nat} {eb : Nat → Br} (h : fewB ns es nb eb = true) :
    (∀ i, i < ns → (es i).id.size ≤ 2147483648 ∧ (es i).heat.size ≤ 2147483648) ∧ (∀ i, i < nb → (eb i).id.size ≤ 2147483648 ∧ (eb i).heat.size ≤ 2147483648) ∧ ns ≤ 140 ∧ nb ≤ 140 := by
  unfold fewB at h
  simp only [Bool.and_eq_true, decide_eq_true_eq, allTo_iff] at h
  obtain ⟨h1, h2, h3, h4⟩ := h
  refine ⟨fun i hi => ?_, fun i hi => ?_, h3, h4⟩
  · have := h1 i (by omega)
    simp only [okS, Bool.and_eq_true, decide_eq_true_eq] at this
    omega
  · have := h2 i (by omega)
    simp only [okB, Bool.and_eq_true, decide_eq_true_eq] at this
    omega
theorem mfew_mat {w : World} {vg vs : Value} {m : Mat} {gv : Nat → Value} (h : mfewB m = true) (hG : GrAt w vg m gv) (hS : SeAt w vs m) : MatAt w (.agg #[vg, vs]) m gv := by
  unfold mfewB at h
  simp only [Bool.and_eq_true, decide_eq_true_eq, allTo_iff] at h
  obtain ⟨h1, h2, h3, h4⟩ := h
  refine ⟨vg, vs, rfl, hG, hS, by omega, by omega, fun i hi => ?_⟩
  have := h1 i (by omega)
  simp only [okG, Bool.and_eq_true, decide_eq_true_eq] at this
  omega
end Go.Proofs.YtiddpaaihloopaaDoor
