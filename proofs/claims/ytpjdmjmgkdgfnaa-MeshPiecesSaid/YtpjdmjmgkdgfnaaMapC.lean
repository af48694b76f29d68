/-
  Keys that are pairs, read backwards; a look-up in a map of bools at the operation; edges so far. Conditions: none. By an AI agent.
-/
import Derived.Test.YtpjdmjmgkdgfnaaMapB
namespace Go.Proofs.Ytpjdmjmgkdgfnaa
open Go Go.RowKit
set_option linter.unusedVariables false
set_option linter.unusedSimpArgs false
theorem keyLits_int {P : Program} {t : TypeId} (h0 : P.underlying t = some (.int .i64)) {n : Nat} {a : Value} {l : List Lit} (h : P.keyLits (n + 1) t [a] = some l) : ∃ z, a = .int .i64 z ∧ (Lit.int .i64 z).wf = true ∧ l = [.int .i64 z] := by
  unfold Program.keyLits at h
  rw [h0] at h
  cases a <;> simp at h
  obtain ⟨⟨rfl, hw⟩, rfl⟩ := h
  exact ⟨_, rfl, hw, rfl⟩
theorem key2_inv {key : Value} {kl : Lit} (h : keyOf Try.prog 67 key = some kl) : ∃ x : E2, key = .agg #[.int .i64 x.1, .int .i64 x.2] ∧ wfE x ∧ kl = kE x := by
  have h1 : Try.prog.underlying 67 = some (.array 2 3) := Try.underlying67
  have h0 : Try.prog.underlying 3 = some (.int .i64) := Try.underlying3
  have h2 : Try.prog.keyType 67 = true := by kernel_rfl
  have c2 : Try.prog.cellsOf 67 = 2 := by kernel_rfl
  have c1 : Try.prog.cellsOf 3 = 1 := by kernel_rfl
  have hs : ∃ n, Try.prog.types.size + 1 = n + 2 := ⟨Try.prog.types.size - 1, by have : 0 < Try.prog.types.size := of_decide_eq_true (by kernel_rfl); omega⟩
  obtain ⟨n, hn⟩ := hs
  generalize Try.prog = P at *
  unfold keyOf at h
  simp only [h1, h2, hn, Bool.true_and] at h
  split at h
  case isFalse => cases h
  case isTrue hf =>
    cases key <;> simp [Value.formed, h1] at hf
    case agg cs =>
      rw [c2] at hf
      obtain ⟨a, b, rfl⟩ : ∃ a b, cs = #[a, b] := by
        rcases cs with ⟨l⟩
        match l, hf with
        | [a, b], _ => exact ⟨a, b, rfl⟩
      have e : (Value.agg #[a, b]).cells.toList = [a, b] := rfl
      rw [e] at h
      simp only [Option.map_eq_some_iff] at h
      obtain ⟨ls, hls, rfl⟩ := h
      unfold Program.keyLits at hls
      rw [h1] at hls
      cases ha : P.keyLits (n + 1) 3 [a] with
      | none => simp [c2, c1, List.range_succ, ha] at hls
      | some la =>
        cases hb : P.keyLits (n + 1) 3 [b] with
        | none => simp [c2, c1, List.range_succ, ha, hb] at hls
        | some lb =>
          simp [c2, c1, List.range_succ, ha, hb] at hls
          obtain ⟨za, rfl, hza, rfl⟩ := keyLits_int h0 ha
          obtain ⟨zb, rfl, hzb, rfl⟩ := keyLits_int h0 hb
          exact ⟨(za, zb), rfl, ⟨hza, hzb⟩, by rw [← hls]; rfl⟩
/-- 'm[k]' at the operation, in a map of bools. -/
theorem wpList_lookup_bool {H : Type} {P : Program} (w : World) {ops : Array Oper} {rest : List Oper} {o : Oper} {a : Act} {Q : Exit → Act → World → Prop}
    (hg : o.guard = none) (m x : Operand) (t : TypeId) (hop : o.op = Op.lookup t m x false)
    (k e : TypeId) (K : Maps.Keyed P k) (ht : P.underlying t = some (.map k e)) (he : P.underlying e = some .bool) (hz : (zeroValue e).run P w = .ok (.bool false) w) (b n : Nat) (D : DataW H)
    (hm : a.eval m = .map (some b)) (hown : w.ownsMap P k (plainElem P e) b n D) (key : Value) (kl : Lit) (hx : a.eval x = key) (hkey : keyOf P k key = some kl)
    (hK : ∀ c, D.atKey kl (.lit (.bool false)) = .lit (.bool c) → wpList P ops Q rest (a.put o.dst (.bool c)) w) :
    wpList P ops Q (o :: rest) a w := by
  refine wpList_plain hg fun K' hK' => ?_
  obtain ⟨c, hrun, hc⟩ := lookup_bool hown K ht he hz hkey
  unfold Oper.wp
  simp [execOp, hop, hm, hx, hrun, Result.andThen]
  exact hK' _ _ (hK c hc)
theorem zero_bool (w : World) : (zeroValue 4).run Try.prog w = .ok (.bool false) w := by kernel_rfl
theorem Below.grow {W w1 : World} (h : Below W.heap.size W w1) (row : Option Nat) : W.grownBy w1 row := ⟨h.os, h.tape, h.output, h.size, fun i hi _ => h.block i hi⟩
/-- edge q of a face -/
def eQ (f : V) (q : Nat) : E2 := (cmp3 q f, cmp3 ((q + 1) % 3) f)
def edQ (F : Nat → V) (j q : Nat) : List E2 := edgesL F j ++ (e3 (F j)).take q
theorem edQ_0 (F : Nat → V) (j : Nat) : edQ F j 0 = edgesL F j := by simp [edQ]
theorem edQ_3 (F : Nat → V) (j : Nat) : edQ F j 3 = edgesL F (j + 1) := rfl
theorem edQ_succ (F : Nat → V) (j : Nat) {q : Nat} (h : q < 3) : edQ F j (q + 1) = edQ F j q ++ [eQ (F j) q] := by
  match q, h with
  | 0, _ => simp [edQ, e3, eQ, cmp3]
  | 1, _ => simp [edQ, e3, eQ, cmp3]
  | 2, _ => simp [edQ, e3, eQ, cmp3]
theorem edges_pre (F : Nat → V) {j : Nat} : ∀ {n : Nat}, j ≤ n → ∃ r, edgesL F n = edgesL F j ++ r
  | 0, h => ⟨[], by obtain rfl : j = 0 := by omega
                    simp⟩
  | n + 1, h => by
    rcases Nat.lt_or_ge n j with h' | h'
    · obtain rfl : j = n + 1 := by omega
      exact ⟨[], by simp⟩
    · obtain ⟨r, hr⟩ := edges_pre F h'
      exact ⟨r ++ e3 (F n), by rw [show edgesL F (n + 1) = edgesL F n ++ e3 (F n) from rfl, hr, List.append_assoc]⟩
theorem edQ_pre (F : Nat → V) {j q n : Nat} (hj : j < n) (hq : q < 3) : ∃ r, edgesL F n = edQ F j q ++ eQ (F j) q :: r := by
  obtain ⟨r, hr⟩ := edges_pre F (Nat.succ_le_of_lt hj)
  rw [hr, show edgesL F (j + 1) = edQ F j 3 from (edQ_3 F j).symm]
  match q, hq with
  | 0, _ => exact ⟨_, by rw [edQ_succ F j (q := 2) (by decide), edQ_succ F j (q := 1) (by decide), edQ_succ F j (q := 0) (by decide)]; simp; rfl⟩
  | 1, _ => exact ⟨_, by rw [edQ_succ F j (q := 2) (by decide), edQ_succ F j (q := 1) (by decide)]; simp; rfl⟩
  | 2, _ => exact ⟨_, by rw [edQ_succ F j (q := 2) (by decide)]; simp; rfl⟩
/-- so far no edge joins a point with itself and none stands twice -/
def GoodE (L : List E2) : Prop := (∀ e ∈ L, e.1 ≠ e.2) ∧ L.Nodup
theorem GoodE.nil : GoodE [] := ⟨fun e h => absurd h (by simp), List.nodup_nil⟩
theorem GoodE.snoc {L : List E2} {e : E2} (h : GoodE L) (h1 : e.1 ≠ e.2) (h2 : e ∉ L) : GoodE (L ++ [e]) := by
  refine ⟨fun f hf => ?_, ?_⟩
  · rcases List.mem_append.1 hf with h' | h'
    · exact h.1 f h'
    · obtain rfl : f = e := by simpa using h'
      exact h1
  · rw [List.nodup_append]
    exact ⟨h.2, by simp, fun a ha b hb => by obtain rfl : b = e := by simpa using hb
                                             exact fun hh => h2 (hh ▸ ha)⟩
theorem not_closed_self {F : Nat → V} {j q n : Nat} (hj : j < n) (hq : q < 3) (h : (eQ (F j) q).1 = (eQ (F j) q).2) : ¬ Closed (edgesL F n) := fun hc => by
  obtain ⟨r, hr⟩ := edQ_pre F hj hq
  exact hc.1 (eQ (F j) q) (by rw [hr]; simp) h
theorem not_closed_twice {F : Nat → V} {j q n : Nat} (hj : j < n) (hq : q < 3) (h : eQ (F j) q ∈ edQ F j q) : ¬ Closed (edgesL F n) := fun hc => by
  obtain ⟨r, hr⟩ := edQ_pre F hj hq
  have h2 := hc.2.1
  rw [hr, List.nodup_append] at h2
  exact h2.2.2 _ h _ (by simp) rfl
theorem eQ_wf {np : Nat} {f : V} (h : idxB np f = true) (hn : np ≤ 1024) {q : Nat} (hq : q < 3) : wfE (eQ f q) := by
  have h' := of_decide_eq_true h
  match q, hq with
  | 0, _ => exact wfE_of (by simp [eQ, cmp3]; omega) (by simp [eQ, cmp3]; omega) hn
  | 1, _ => exact wfE_of (by simp [eQ, cmp3]; omega) (by simp [eQ, cmp3]; omega) hn
  | 2, _ => exact wfE_of (by simp [eQ, cmp3]; omega) (by simp [eQ, cmp3]; omega) hn
end Go.Proofs.Ytpjdmjmgkdgfnaa
