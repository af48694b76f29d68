/-
  Light and the law's corner, by walks. Conditions: none. By an AI agent.
-/
import Derived.Test.YtpjdmjmgkdgfnaaMeshH
namespace Go.Proofs.Ytpjdmjmgkdgfnaa
open Go Go.RowKit
set_option linter.unusedVariables false
set_option linter.unusedSimpArgs false
set_option maxRecDepth 100000

theorem light_any (v : Value) (np nf : Nat) (P F : Nat → V) (w : World) (h : MAt w v np P nf F) :
    Calls Try.prog 11 #[v] w fun e w' => e = .returned (.bool (decide (np ≤ 1100 ∧ nf ≤ 300))) ∧ Below w.heap.size w w' := by
  obtain ⟨op, cp, of', cf, rfl⟩ := h.slices
  clear h
  by_cases h1 : (np : Int) ≤ 1100
  · have k1 : decide ((np : Int) ≤ 1100) = true := decide_eq_true h1
    by_cases h2 : (nf : Int) ≤ 300
    · have k2 : decide ((nf : Int) ≤ 300) = true := decide_eq_true h2
      rw [decide_eq_true (show np ≤ 1100 ∧ nf ≤ 300 by omega)]
      go_enter Try.func11, Try.ntmps11
      go_wp2
      go_returns
      exact ⟨rfl, by go_grown⟩
    · have k2 : decide ((nf : Int) ≤ 300) = false := decide_eq_false h2
      rw [decide_eq_false (show ¬ (np ≤ 1100 ∧ nf ≤ 300) by omega)]
      go_enter Try.func11, Try.ntmps11
      go_wp2
      go_returns
      exact ⟨rfl, by go_grown⟩
  · have k1 : decide ((np : Int) ≤ 1100) = false := decide_eq_false h1
    rw [decide_eq_false (show ¬ (np ≤ 1100 ∧ nf ≤ 300) by omega)]
    go_enter Try.func11, Try.ntmps11
    go_wp2
    go_returns
    exact ⟨rfl, by go_grown⟩

def cP : Nat → V
  | 0 => (0, 0, 0)
  | 1 => (1, 0, 0)
  | 2 => (0, 1, 0)
  | _ => (0, 0, 1)
def cF : Nat → V
  | 0 => (0, 2, 1)
  | 1 => (0, 1, 3)
  | 2 => (0, 3, 2)
  | _ => (1, 2, 3)
set_option maxHeartbeats 2000000 in
theorem corner_any (w : World) : Calls Try.prog 29 #[] w fun e w' => ∃ v, e = .returned v ∧ MAt w' v 4 cP 4 cF ∧ Below w.heap.size w w' := by
  go_enter Try.func29, Try.ntmps29
  go_wp2
  all_goals (refine bodyPost_ret (v := .agg #[.slice (some ⟨w.heap.size + 1, 0, none⟩) 4 4, .slice (some ⟨w.heap.size + 1 + 1, 0, none⟩) 4 4]) (by simp (maxDischargeDepth := 9) [results, Try.results29, go_sem, *]) rfl ?_)
  refine ⟨_, rfl, ⟨_, _, rfl, ?_, ?_⟩, by go_grown⟩
  · exact ⟨some ⟨w.heap.size + 1, 0, none⟩, 4, rfl, by decide, by decide, fun _ => ⟨w.heap.size + 1, 0, rfl, by simp <;> omega, fun i j hi hj => by
      match i, hi with
      | 0, _ => match j, hj with | 0, _ => simp [go_sem, cv3, cP, cF] | 1, _ => simp [go_sem, cv3, cP, cF] | 2, _ => simp [go_sem, cv3, cP, cF]
      | 1, _ => match j, hj with | 0, _ => simp [go_sem, cv3, cP, cF] | 1, _ => simp [go_sem, cv3, cP, cF] | 2, _ => simp [go_sem, cv3, cP, cF]
      | 2, _ => match j, hj with | 0, _ => simp [go_sem, cv3, cP, cF] | 1, _ => simp [go_sem, cv3, cP, cF] | 2, _ => simp [go_sem, cv3, cP, cF]
      | 3, _ => match j, hj with | 0, _ => simp [go_sem, cv3, cP, cF] | 1, _ => simp [go_sem, cv3, cP, cF] | 2, _ => simp [go_sem, cv3, cP, cF]⟩⟩
  · exact ⟨some ⟨w.heap.size + 1 + 1, 0, none⟩, 4, rfl, by decide, by decide, fun _ => ⟨w.heap.size + 1 + 1, 0, rfl, by simp <;> omega, fun i j hi hj => by
      match i, hi with
      | 0, _ => match j, hj with | 0, _ => simp [go_sem, cv3, cP, cF] | 1, _ => simp [go_sem, cv3, cP, cF] | 2, _ => simp [go_sem, cv3, cP, cF]
      | 1, _ => match j, hj with | 0, _ => simp [go_sem, cv3, cP, cF] | 1, _ => simp [go_sem, cv3, cP, cF] | 2, _ => simp [go_sem, cv3, cP, cF]
      | 2, _ => match j, hj with | 0, _ => simp [go_sem, cv3, cP, cF] | 1, _ => simp [go_sem, cv3, cP, cF] | 2, _ => simp [go_sem, cv3, cP, cF]
      | 3, _ => match j, hj with | 0, _ => simp [go_sem, cv3, cP, cF] | 1, _ => simp [go_sem, cv3, cP, cF] | 2, _ => simp [go_sem, cv3, cP, cF]⟩⟩
end Go.Proofs.Ytpjdmjmgkdgfnaa
