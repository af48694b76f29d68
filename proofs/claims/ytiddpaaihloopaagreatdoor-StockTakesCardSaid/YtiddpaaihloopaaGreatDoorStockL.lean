/-
  The contracts in the form that the laws of a right stock want. Conditions: none. By an AI agent.
-/
import Derived.Test.YtiddpaaihloopaaGreatDoorRight
namespace Go.Proofs.YtiddpaaihloopaaGreatDoor
open Go Go.ChangeShapes Go.WideShapes Go.RowKit Go.ChangeAt
set_option linter.unusedVariables false
set_option linter.unusedSimpArgs false
set_option maxRecDepth 100000
theorem rsame_self {v u : Value} {ns nb : Nat} {es : Nat → Sh} {eb : Nat → Br} (w : World) (h : StAt w v ns es nb eb) (h' : StAt w u ns es nb eb) :
    Calls Tryz.prog 13 #[v, u] w fun e w' => e = .returned (.bool true) ∧ Below w.heap.size w w' := by
  have h1 : sameS ns es nb eb ns es nb eb = true := by
    unfold sameS
    rw [(sameB_iff (fun x y => Sh.eqB_iff)).2 ⟨rfl, fun i hi => rfl⟩, (sameB_iff (fun x y => Br.eqB_iff)).2 ⟨rfl, fun i hi => rfl⟩]
    rfl
  have := rsame_any v u ns es nb eb ns es nb eb w h h'
  rwa [h1] at this
theorem neq_self_Sheet (x : Sh) (W : World) : (binOp .neq 31 x.val x.val).run Tryz.prog W = .ok (.bool false) W := by
  rw [neq_Sheet, Sh.eqB_iff.2 rfl]; rfl
theorem neq_self_Bar (x : Br) (W : World) : (binOp .neq 33 x.val x.val).run Tryz.prog W = .ok (.bool false) W := by
  rw [neq_Bar, Br.eqB_iff.2 rfl]; rfl

theorem addSheet_parts {m : Mat} {ns : Nat} {es : Nat → Sh} {x : Sh} (h : addS (sheetE m x) (addE Sh.id es ns x) = 0) : sheetE m x = 0 ∧ addE Sh.id es ns x = 0 := by
  unfold addS at h
  split at h
  · rename_i h1; exact absurd h h1
  · rename_i h1; exact ⟨Decidable.not_not.1 h1, h⟩
theorem addSheet_ok {m : Mat} {ns nb : Nat} {es : Nat → Sh} {eb : Nat → Br} (R : Right m ns es nb eb) (v vm : Value) (gv : Nat → Value) (x : Sh) (w : World) (h : StAt w v ns es nb eb) (hm : MatAt w vm m gv) (hz : x.id.size ≤ 2147483648 ∧ x.heat.size ≤ 2147483648) (hml : MaxLenIs w) (hE : addS (sheetE m x) (addE Sh.id es ns x) = 0) :
    Calls Tryz.prog 9 #[v, vm, x.val] w fun e w' => ∃ oa ca ob cb, e = .returned (.tuple #[.agg #[.slice oa (ns + 1) ca, .slice ob nb cb], .int .i64 0]) ∧ StAt w' (.agg #[.slice oa (ns + 1) ca, .slice ob nb cb]) (ns + 1) (insF es (placeI Sh.id es ns x.id) x) nb eb ∧ Below w.heap.size w w' := by
  have h1 := R.n1
  have h2 := R.n2
  refine (AddSheet_any v ns es nb eb vm m gv x w h hm (by omega) (by omega) R.asc hz.1 hz.2 hml).mono ?_
  rintro e w' ⟨v', rfl, hst, hnw, hb⟩
  rw [hE] at hst ⊢
  obtain ⟨oa, ca, ob, cb, rfl⟩ := hst.slices
  exact ⟨oa, ca, ob, cb, rfl, hst, hb⟩
theorem addSheet_no {m : Mat} {ns nb : Nat} {es : Nat → Sh} {eb : Nat → Br} (R : Right m ns es nb eb) (v vm : Value) (gv : Nat → Value) (x : Sh) (w : World) (h : StAt w v ns es nb eb) (hm : MatAt w vm m gv) (hz : x.id.size ≤ 2147483648 ∧ x.heat.size ≤ 2147483648) (hml : MaxLenIs w) (hE : addS (sheetE m x) (addE Sh.id es ns x) ≠ 0) :
    Calls Tryz.prog 9 #[v, vm, x.val] w fun e w' => ∃ oa ca ob cb, e = .returned (.tuple #[.agg #[.slice oa 0 ca, .slice ob 0 cb], .int .i64 (addS (sheetE m x) (addE Sh.id es ns x))]) ∧ Below w.heap.size w w' := by
  have h1 := R.n1
  have h2 := R.n2
  refine (AddSheet_any v ns es nb eb vm m gv x w h hm (by omega) (by omega) R.asc hz.1 hz.2 hml).mono ?_
  rintro e w' ⟨v', rfl, hst, hnw, hb⟩
  rw [if_neg hE, if_neg hE] at hst
  obtain ⟨oa, ca, ob, cb, rfl⟩ := hst.slices
  exact ⟨oa, ca, ob, cb, rfl, hb⟩
theorem takeSheet_back {m : Mat} {ns nb : Nat} {es : Nat → Sh} {eb : Nat → Br} (R : Right m ns es nb eb) (v : Value) (x : Sh) (w : World) (hE : addS (sheetE m x) (addE Sh.id es ns x) = 0) (h : StAt w v (ns + 1) (insF es (placeI Sh.id es ns x.id) x) nb eb) :
    Calls Tryz.prog 14 #[v, .string x.id] w fun e w' => ∃ oa ca ob cb, e = .returned (.tuple #[.agg #[.slice oa (ns) ca, .slice ob nb cb], x.val, .int .i64 0]) ∧ StAt w' (.agg #[.slice oa (ns) ca, .slice ob nb cb]) ns es nb eb ∧ Below w.heap.size w w' := by
  have h1 := R.n1
  have h2 := R.n2
  obtain ⟨q1, q2⟩ := addSheet_parts hE
  obtain ⟨a1, a2, a3, a4, a5, a6⟩ := add_facts R.asc q2 (sheetE m) R.s q1 (fun _ => True) (fun _ _ => trivial) trivial
  have hte : takeE Sh.id (insF es (placeI Sh.id es ns x.id) x) (ns + 1) x.id = 0 := by unfold takeE; rw [if_pos a5]
  have htv : takeV Sh.id Sh.none (insF es (placeI Sh.id es ns x.id) x) (ns + 1) x.id = x := by unfold takeV; rw [if_pos a5, a6, insF_eq]
  refine (TakeSheet_any v (ns + 1) (insF es (placeI Sh.id es ns x.id) x) nb eb x.id w h (by omega) (by omega) a2).mono ?_
  rintro e w' ⟨v', rfl, hst, hb⟩
  rw [hte, a6, del_ins] at hst
  rw [hte, htv]
  obtain ⟨oa, ca, ob, cb, rfl⟩ := hst.slices
  exact ⟨oa, ca, ob, cb, rfl, hst, hb⟩
theorem addSheet_again {m : Mat} {ns nb : Nat} {es : Nat → Sh} {eb : Nat → Br} (R : Right m ns es nb eb) (v vm : Value) (gv : Nat → Value) (x : Sh) (w : World) (h : StAt w v (ns + 1) (insF es (placeI Sh.id es ns x.id) x) nb eb) (hm : MatAt w vm m gv) (hz : x.id.size ≤ 2147483648 ∧ x.heat.size ≤ 2147483648) (hml : MaxLenIs w) (hE : addS (sheetE m x) (addE Sh.id es ns x) = 0) :
    Calls Tryz.prog 9 #[v, vm, x.val] w fun e w' => ∃ oa ca ob cb, e = .returned (.tuple #[.agg #[.slice oa 0 ca, .slice ob 0 cb], .int .i64 7]) ∧ Below w.heap.size w w' := by
  have h1 := R.n1
  have h2 := R.n2
  obtain ⟨q1, q2⟩ := addSheet_parts hE
  obtain ⟨a1, a2, a3, a4, a5, a6⟩ := add_facts R.asc q2 (sheetE m) R.s q1 (fun _ => True) (fun _ _ => trivial) trivial
  have hE' : addS (sheetE m x) (addE Sh.id (insF es (placeI Sh.id es ns x.id) x) (ns + 1) x) = 7 := by unfold addS addE; rw [q1, if_neg (by decide), if_pos a5]
  refine (AddSheet_any v (ns + 1) (insF es (placeI Sh.id es ns x.id) x) nb eb vm m gv x w h hm (by omega) (by omega) a2 hz.1 hz.2 hml).mono ?_
  rintro e w' ⟨v', rfl, hst, hnw, hb⟩
  rw [hE'] at hst ⊢
  obtain ⟨oa, ca, ob, cb, rfl⟩ := hst.slices
  exact ⟨oa, ca, ob, cb, rfl, hb⟩
theorem addSheet_check {m : Mat} {ns nb : Nat} {es : Nat → Sh} {eb : Nat → Br} (R : Right m ns es nb eb) (v vm : Value) (gv : Nat → Value) (x : Sh) (w : World) (hm : MatAt w vm m gv) (hz : x.id.size ≤ 2147483648 ∧ x.heat.size ≤ 2147483648) (hml : MaxLenIs w) (hE : addS (sheetE m x) (addE Sh.id es ns x) = 0) (h : StAt w v (ns + 1) (insF es (placeI Sh.id es ns x.id) x) nb eb) :
    Calls Tryz.prog 26 #[v, vm] w fun e w' => e = .returned (.int .i64 0) ∧ Below w.heap.size w w' := by
  have h1 := R.n1
  have h2 := R.n2
  have hf := few_sizes R.few
  obtain ⟨q1, q2⟩ := addSheet_parts hE
  obtain ⟨a1, a2, a3, a4, a5, a6⟩ := add_facts R.asc q2 (sheetE m) R.s q1 (fun y => y.id.size ≤ 2147483648 ∧ y.heat.size ≤ 2147483648) hf.1 hz
  have hc : checkF m (ns + 1) (insF es (placeI Sh.id es ns x.id) x) nb eb = 0 := check_of a1 h2 a3 R.b a2 R.bsc
  have := check_any v (ns + 1) (insF es (placeI Sh.id es ns x.id) x) nb eb vm m gv w h hm a4 hf.2.1 hml
  rwa [hc] at this

theorem addBar_parts {m : Mat} {nb : Nat} {eb : Nat → Br} {x : Br} (h : addS (barE m x) (addE Br.id eb nb x) = 0) : barE m x = 0 ∧ addE Br.id eb nb x = 0 := by
  unfold addS at h
  split at h
  · rename_i h1; exact absurd h h1
  · rename_i h1; exact ⟨Decidable.not_not.1 h1, h⟩
theorem addBar_ok {m : Mat} {ns nb : Nat} {es : Nat → Sh} {eb : Nat → Br} (R : Right m ns es nb eb) (v vm : Value) (gv : Nat → Value) (x : Br) (w : World) (h : StAt w v ns es nb eb) (hm : MatAt w vm m gv) (hz : x.id.size ≤ 2147483648 ∧ x.heat.size ≤ 2147483648) (hml : MaxLenIs w) (hE : addS (barE m x) (addE Br.id eb nb x) = 0) :
    Calls Tryz.prog 11 #[v, vm, x.val] w fun e w' => ∃ oa ca ob cb, e = .returned (.tuple #[.agg #[.slice oa ns ca, .slice ob (nb + 1) cb], .int .i64 0]) ∧ StAt w' (.agg #[.slice oa ns ca, .slice ob (nb + 1) cb]) ns es (nb + 1) (insF eb (placeI Br.id eb nb x.id) x) ∧ Below w.heap.size w w' := by
  have h1 := R.n1
  have h2 := R.n2
  refine (AddBar_any v ns es nb eb vm m gv x w h hm (by omega) (by omega) R.bsc hz.1 hz.2 hml).mono ?_
  rintro e w' ⟨v', rfl, hst, hnw, hb⟩
  rw [hE] at hst ⊢
  obtain ⟨oa, ca, ob, cb, rfl⟩ := hst.slices
  exact ⟨oa, ca, ob, cb, rfl, hst, hb⟩
theorem addBar_no {m : Mat} {ns nb : Nat} {es : Nat → Sh} {eb : Nat → Br} (R : Right m ns es nb eb) (v vm : Value) (gv : Nat → Value) (x : Br) (w : World) (h : StAt w v ns es nb eb) (hm : MatAt w vm m gv) (hz : x.id.size ≤ 2147483648 ∧ x.heat.size ≤ 2147483648) (hml : MaxLenIs w) (hE : addS (barE m x) (addE Br.id eb nb x) ≠ 0) :
    Calls Tryz.prog 11 #[v, vm, x.val] w fun e w' => ∃ oa ca ob cb, e = .returned (.tuple #[.agg #[.slice oa 0 ca, .slice ob 0 cb], .int .i64 (addS (barE m x) (addE Br.id eb nb x))]) ∧ Below w.heap.size w w' := by
  have h1 := R.n1
  have h2 := R.n2
  refine (AddBar_any v ns es nb eb vm m gv x w h hm (by omega) (by omega) R.bsc hz.1 hz.2 hml).mono ?_
  rintro e w' ⟨v', rfl, hst, hnw, hb⟩
  rw [if_neg hE, if_neg hE] at hst
  obtain ⟨oa, ca, ob, cb, rfl⟩ := hst.slices
  exact ⟨oa, ca, ob, cb, rfl, hb⟩
theorem takeBar_back {m : Mat} {ns nb : Nat} {es : Nat → Sh} {eb : Nat → Br} (R : Right m ns es nb eb) (v : Value) (x : Br) (w : World) (hE : addS (barE m x) (addE Br.id eb nb x) = 0) (h : StAt w v ns es (nb + 1) (insF eb (placeI Br.id eb nb x.id) x)) :
    Calls Tryz.prog 16 #[v, .string x.id] w fun e w' => ∃ oa ca ob cb, e = .returned (.tuple #[.agg #[.slice oa ns ca, .slice ob (nb) cb], x.val, .int .i64 0]) ∧ StAt w' (.agg #[.slice oa ns ca, .slice ob (nb) cb]) ns es nb eb ∧ Below w.heap.size w w' := by
  have h1 := R.n1
  have h2 := R.n2
  obtain ⟨q1, q2⟩ := addBar_parts hE
  obtain ⟨a1, a2, a3, a4, a5, a6⟩ := add_facts R.bsc q2 (barE m) R.b q1 (fun _ => True) (fun _ _ => trivial) trivial
  have hte : takeE Br.id (insF eb (placeI Br.id eb nb x.id) x) (nb + 1) x.id = 0 := by unfold takeE; rw [if_pos a5]
  have htv : takeV Br.id Br.none (insF eb (placeI Br.id eb nb x.id) x) (nb + 1) x.id = x := by unfold takeV; rw [if_pos a5, a6, insF_eq]
  refine (TakeBar_any v ns es (nb + 1) (insF eb (placeI Br.id eb nb x.id) x) x.id w h (by omega) (by omega) a2).mono ?_
  rintro e w' ⟨v', rfl, hst, hb⟩
  rw [hte, a6, del_ins] at hst
  rw [hte, htv]
  obtain ⟨oa, ca, ob, cb, rfl⟩ := hst.slices
  exact ⟨oa, ca, ob, cb, rfl, hst, hb⟩
theorem addBar_again {m : Mat} {ns nb : Nat} {es : Nat → Sh} {eb : Nat → Br} (R : Right m ns es nb eb) (v vm : Value) (gv : Nat → Value) (x : Br) (w : World) (h : StAt w v ns es (nb + 1) (insF eb (placeI Br.id eb nb x.id) x)) (hm : MatAt w vm m gv) (hz : x.id.size ≤ 2147483648 ∧ x.heat.size ≤ 2147483648) (hml : MaxLenIs w) (hE : addS (barE m x) (addE Br.id eb nb x) = 0) :
    Calls Tryz.prog 11 #[v, vm, x.val] w fun e w' => ∃ oa ca ob cb, e = .returned (.tuple #[.agg #[.slice oa 0 ca, .slice ob 0 cb], .int .i64 7]) ∧ Below w.heap.size w w' := by
  have h1 := R.n1
  have h2 := R.n2
  obtain ⟨q1, q2⟩ := addBar_parts hE
  obtain ⟨a1, a2, a3, a4, a5, a6⟩ := add_facts R.bsc q2 (barE m) R.b q1 (fun _ => True) (fun _ _ => trivial) trivial
  have hE' : addS (barE m x) (addE Br.id (insF eb (placeI Br.id eb nb x.id) x) (nb + 1) x) = 7 := by unfold addS addE; rw [q1, if_neg (by decide), if_pos a5]
  refine (AddBar_any v ns es (nb + 1) (insF eb (placeI Br.id eb nb x.id) x) vm m gv x w h hm (by omega) (by omega) a2 hz.1 hz.2 hml).mono ?_
  rintro e w' ⟨v', rfl, hst, hnw, hb⟩
  rw [hE'] at hst ⊢
  obtain ⟨oa, ca, ob, cb, rfl⟩ := hst.slices
  exact ⟨oa, ca, ob, cb, rfl, hb⟩
theorem addBar_check {m : Mat} {ns nb : Nat} {es : Nat → Sh} {eb : Nat → Br} (R : Right m ns es nb eb) (v vm : Value) (gv : Nat → Value) (x : Br) (w : World) (hm : MatAt w vm m gv) (hz : x.id.size ≤ 2147483648 ∧ x.heat.size ≤ 2147483648) (hml : MaxLenIs w) (hE : addS (barE m x) (addE Br.id eb nb x) = 0) (h : StAt w v ns es (nb + 1) (insF eb (placeI Br.id eb nb x.id) x)) :
    Calls Tryz.prog 26 #[v, vm] w fun e w' => e = .returned (.int .i64 0) ∧ Below w.heap.size w w' := by
  have h1 := R.n1
  have h2 := R.n2
  have hf := few_sizes R.few
  obtain ⟨q1, q2⟩ := addBar_parts hE
  obtain ⟨a1, a2, a3, a4, a5, a6⟩ := add_facts R.bsc q2 (barE m) R.b q1 (fun y => y.id.size ≤ 2147483648 ∧ y.heat.size ≤ 2147483648) hf.2.1 hz
  have hc : checkF m ns es (nb + 1) (insF eb (placeI Br.id eb nb x.id) x) = 0 := check_of h1 a1 R.s a3 R.asc a2
  have := check_any v ns es (nb + 1) (insF eb (placeI Br.id eb nb x.id) x) vm m gv w h hm hf.1 a4 hml
  rwa [hc] at this
end Go.Proofs.YtiddpaaihloopaaGreatDoor
