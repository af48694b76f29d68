/-
  A store of a whole variable, in one step: behind it the block's cells are known. Conditions: none. By an AI agent.
-/
import Derived.Test.YtgbhhjdmochhpaaGreatDoorSeq
namespace Go.Proofs.YtgbhhjdmochhpaaGreatDoor
open Go Go.RowKit
set_option linter.unusedVariables false

theorem stored_setRow {w : World} {b : Nat} {cs0 cs : Array Value} {ty : TypeId} (h : w.heap[b]? = some (.cells cs0 ty)) : Stored w (w.setRow b cs) b cs ty :=
  ⟨rfl, rfl, rfl, size_setRow _ _ _, fun k hk => setRow_other w b k _ hk, setRow_heap w b cs0 cs ty _ h⟩
theorem Stored.below {B b : Nat} {a w w' : World} {cs : Array Value} {t : TypeId} (h : Below B a w) (hs : Stored w w' b cs t) (hb : B ≤ b) : Below B a w' :=
  ⟨hs.os.trans h.os, hs.tape.trans h.tape, hs.output.trans h.output, by rw [hs.size]; exact h.size, fun k hk => (hs.other k (by omega)).trans (h.block k hk)⟩
theorem run_storeAt_all {P : Program} {w : World} {t : TypeId} {b k : Nat} {cs0 cs : Array Value} {ty : TypeId} (hk : (P.info? t).map (fun i => i.size) = some k) (hs : cs.size = k) (h0 : cs0.size = k) (h1 : cs.toList.all (fun v => v.oneCell') = true)
    (h : w.heap[b]? = some (.cells cs0 ty)) : (Instr.storeAt t (.pointer (some ⟨b, 0, none⟩)) (.agg cs)).run P w = .ok () (w.setRow b cs) := by
  obtain ⟨i, hi, hsz⟩ : ∃ i, P.info? t = some i ∧ i.size = k := by
    cases hi : P.info? t with
    | none => rw [hi] at hk; cases hk
    | some i => rw [hi] at hk; exact ⟨i, rfl, by simpa using hk⟩
  have hst := run_storeCells_at (P := P) b 0 ty cs.toList 0 cs0 w h (by simp; omega) (fun v hv => by have := List.all_eq_true.1 h1 v hv; simpa using this)
  have he : (cs0.toList.take (0 + 0) ++ cs.toList ++ cs0.toList.drop (0 + 0 + cs.toList.length)).toArray = cs := by
    have : cs0.toList.drop (0 + 0 + cs.toList.length) = [] := List.drop_eq_nil_of_le (by simp; omega)
    rw [this]; simp
  rw [he] at hst
  simp [Instr.storeAt, Instr.sureAddr, storeVar, sizeOf, typeInfo, hi, hsz, Value.cells, hs, hst]
theorem wpList_store_all {P : Program} {ops : Array Oper} {rest : List Oper} {a : Act} {w : World} {Q : Exit → Act → World → Prop} {p x : Tmp} {T : TypeId} {pos : String} {after : Array Edge} (t : TypeId) (b k : Nat) (cs : Array Value) (ty : TypeId)
    (hk : (P.info? t).map (fun i => i.size) = some k) (hp : a.eval (.tmp p) = .pointer (some ⟨b, 0, none⟩)) (hx : a.eval (.tmp x) = .agg cs) (hs : cs.size = k) (h1 : cs.toList.all (fun v => v.oneCell') = true)
    (hh : ∃ cs0, w.heap[b]? = some (.cells cs0 ty) ∧ cs0.size = k) (h : ∀ w', Stored w w' b cs ty → wpList P ops Q rest a w') :
    wpList P ops Q (⟨none, .store t (.tmp p) (.tmp x), T, pos, after, none⟩ :: rest) a w := by
  obtain ⟨cs0, hh, h0⟩ := hh
  refine wpList_plain rfl fun K hK => ?_
  have hr := run_storeAt_all (P := P) hk hs h0 h1 hh
  unfold Oper.wp execOp
  simp only [hp, hx]
  simp [hr, Oper.upon]
  exact hK _ _ (h _ (stored_setRow hh))
theorem run_loadVar_all {P : Program} {w : World} {t : TypeId} {b k : Nat} {cs : Array Value} {ty : TypeId} {fs : Array Field} (hu : P.underlying t = some (.struct fs)) (hk : (P.info? t).map (fun i => i.size) = some k) (hs : cs.size = k)
    (h : w.heap[b]? = some (.cells cs ty)) : (loadVar t ⟨b, 0, none⟩).run P w = .ok (.agg cs) w := by
  obtain ⟨i, hi, hsz⟩ : ∃ i, P.info? t = some i ∧ i.size = k := by
    cases hi : P.info? t with
    | none => rw [hi] at hk; cases hk
    | some i => rw [hi] at hk; exact ⟨i, rfl, by simpa using hk⟩
  have hl := run_loadCells_list (P := P) w ⟨b, 0, none⟩ cs.toList (fun j v hv => by
    have hadd : (⟨b, 0, none⟩ : Addr).add j = ⟨b, j, none⟩ := by unfold Addr.add; split <;> simp_all
    rw [hadd, cell_of_row w b j cs ty (0, 0) h]
    simpa using hv)
  rw [show cs.toList.length = k by simpa using hs] at hl
  simp [loadVar, isAgg, run_underlying hu, sizeOf, typeInfo, hi, hsz, hl]
theorem wpList_load_all {P : Program} {ops : Array Oper} {rest : List Oper} {a : Act} {w : World} {Q : Exit → Act → World → Prop} {p d : Tmp} {T : TypeId} {pos : String} {after : Array Edge} (t : TypeId) (b k : Nat) (cs : Array Value) (ty : TypeId) (fs : Array Field)
    (hu : P.underlying t = some (.struct fs)) (hk : (P.info? t).map (fun i => i.size) = some k) (hp : a.eval (.tmp p) = .pointer (some ⟨b, 0, none⟩)) (hs : cs.size = k)
    (hh : w.heap[b]? = some (.cells cs ty)) (h : wpList P ops Q rest (a.put (some d) (.agg cs)) w) :
    wpList P ops Q (⟨some d, .load t (.tmp p), T, pos, after, none⟩ :: rest) a w := by
  refine wpList_plain rfl fun K hK => ?_
  have hl := run_loadVar_all (P := P) hu hk hs hh
  unfold Oper.wp execOp
  simp only [hp]
  simp [Instr.loadAt, Instr.sureAddr, hl, Oper.upon]
  exact hK _ _ h
theorem results_cell_tmp {P : Program} {fn : Func} {c s : Tmp} {T : TypeId} {b k : Nat} {cs : Array Value} {ty : TypeId} {fs : Array Field} {tmps : Array Value} {w : World} (hr : fn.results = #[.cell c T, .tmp s]) (hp : tmps.getD c undef = .pointer (some ⟨b, 0, none⟩))
    (h : w.heap[b]? = some (.cells cs ty)) (hu : P.underlying T = some (.struct fs)) (hk : (P.info? T).map (fun i => i.size) = some k) (hs : cs.size = k) : (results fn tmps).run P w = .ok (.tuple #[.agg cs, tmps.getD s undef]) w := by
  have hl := run_loadVar_all (P := P) hu hk hs h
  have hp2 : tmps[c]?.getD undef = .pointer (some ⟨b, 0, none⟩) := by simpa using hp
  simp [results, hr, hp2, asAddr, hl]
theorem results_cell {P : Program} {fn : Func} {c : Tmp} {T : TypeId} {b k : Nat} {cs : Array Value} {ty : TypeId} {fs : Array Field} {tmps : Array Value} {w : World} (hr : fn.results = #[.cell c T]) (hp : tmps.getD c undef = .pointer (some ⟨b, 0, none⟩))
    (h : w.heap[b]? = some (.cells cs ty)) (hu : P.underlying T = some (.struct fs)) (hk : (P.info? T).map (fun i => i.size) = some k) (hs : cs.size = k) : (results fn tmps).run P w = .ok (.agg cs) w := by
  have hl := run_loadVar_all (P := P) hu hk hs h
  have hp2 : tmps[c]?.getD undef = .pointer (some ⟨b, 0, none⟩) := by simpa using hp
  simp [results, hr, hp2, asAddr, hl]
end Go.Proofs.YtgbhhjdmochhpaaGreatDoor
