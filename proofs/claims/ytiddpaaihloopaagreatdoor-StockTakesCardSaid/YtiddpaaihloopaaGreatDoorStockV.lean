/-
  The reference's and the program's Add and Take in a right stock, their results' parts named. Conditions: none. By an AI agent.
-/
import Derived.Test.YtiddpaaihloopaaGreatDoorRAddB
import Derived.Test.YtiddpaaihloopaaGreatDoorRTake
import Derived.Test.YtiddpaaihloopaaGreatDoorStockO
namespace Go.Proofs.YtiddpaaihloopaaGreatDoor
open Go Go.ChangeShapes Go.WideShapes Go.RowKit Go.ChangeAt
set_option linter.unusedSimpArgs false
set_option linter.unusedVariables false
set_option maxRecDepth 100000

theorem raddSheet_gen {m : Mat} {ns nb : Nat} {es : Nat → Sh} {eb : Nat → Br} (R : Right m ns es nb eb) (v vm : Value) (gv : Nat → Value) (x : Sh) (w : World) (E : Int) (N1 N2 : Nat) (hE : addS (sheetE m x) (addE Sh.id es ns x) = E) (h1 : (if E = 0 then ns + 1 else 0) = N1) (h2 : (if E = 0 then nb else 0) = N2) (h : StAt w v ns es nb eb) (hm : MatAt w vm m gv) (hz : x.id.size ≤ 2147483648 ∧ x.heat.size ≤ 2147483648) (hml : MaxLenIs w) :
    Calls Tryz.prog 10 #[v, vm, x.val] w fun e w' => ∃ oa ca ob cb, e = .returned (.tuple #[.agg #[.slice oa N1 ca, .slice ob N2 cb], .int .i64 E]) ∧ StAt w' (.agg #[.slice oa N1 ca, .slice ob N2 cb]) N1 (insF es (placeI Sh.id es ns x.id) x) N2 eb ∧ Below w.heap.size w w' := by
  have q1 := R.n1
  have q2 := R.n2
  refine (RAddSheet_any v ns es nb eb vm m gv x w h hm (by omega) (by omega) R.asc hz.1 hz.2 hml).mono ?_
  rintro e w' ⟨v', rfl, hst, hb⟩
  rw [hE, h1, h2] at hst
  rw [hE]
  obtain ⟨oa, ca, ob, cb, rfl⟩ := hst.slices
  exact ⟨oa, ca, ob, cb, rfl, hst, hb⟩
theorem takeSheet_gen {m : Mat} {ns nb : Nat} {es : Nat → Sh} {eb : Nat → Br} (R : Right m ns es nb eb) (v : Value) (s : ByteArray) (w : World) (X : Sh) (E : Int) (N1 N2 : Nat) (hX : takeV Sh.id Sh.none es ns s = X) (hE : takeE Sh.id es ns s = E) (h1 : (if E = 0 then ns - 1 else 0) = N1) (h2 : (if E = 0 then nb else 0) = N2) (h : StAt w v ns es nb eb) :
    Calls Tryz.prog 14 #[v, .string s] w fun e w' => ∃ oa ca ob cb, e = .returned (.tuple #[.agg #[.slice oa N1 ca, .slice ob N2 cb], X.val, .int .i64 E]) ∧ StAt w' (.agg #[.slice oa N1 ca, .slice ob N2 cb]) N1 (delF es (placeI Sh.id es ns s)) N2 eb ∧ Below w.heap.size w w' := by
  have q1 := R.n1
  have q2 := R.n2
  refine (TakeSheet_any v ns es nb eb s w h (by omega) (by omega) R.asc).mono ?_
  rintro e w' ⟨v', rfl, hst, hb⟩
  rw [hE, h1, h2] at hst
  rw [hX, hE]
  obtain ⟨oa, ca, ob, cb, rfl⟩ := hst.slices
  exact ⟨oa, ca, ob, cb, rfl, hst, hb⟩
theorem rtakeSheet_gen {m : Mat} {ns nb : Nat} {es : Nat → Sh} {eb : Nat → Br} (R : Right m ns es nb eb) (v : Value) (s : ByteArray) (w : World) (X : Sh) (E : Int) (N1 N2 : Nat) (hX : takeV Sh.id Sh.none es ns s = X) (hE : takeE Sh.id es ns s = E) (h1 : (if E = 0 then ns - 1 else 0) = N1) (h2 : (if E = 0 then nb else 0) = N2) (h : StAt w v ns es nb eb) :
    Calls Tryz.prog 15 #[v, .string s] w fun e w' => ∃ oa ca ob cb, e = .returned (.tuple #[.agg #[.slice oa N1 ca, .slice ob N2 cb], X.val, .int .i64 E]) ∧ StAt w' (.agg #[.slice oa N1 ca, .slice ob N2 cb]) N1 (delF es (placeI Sh.id es ns s)) N2 eb ∧ Below w.heap.size w w' := by
  have q1 := R.n1
  have q2 := R.n2
  refine (RTakeSheet_any v ns es nb eb s w h (by omega) (by omega) R.asc).mono ?_
  rintro e w' ⟨v', rfl, hst, hb⟩
  rw [hE, h1, h2] at hst
  rw [hX, hE]
  obtain ⟨oa, ca, ob, cb, rfl⟩ := hst.slices
  exact ⟨oa, ca, ob, cb, rfl, hst, hb⟩

theorem raddBar_gen {m : Mat} {ns nb : Nat} {es : Nat → Sh} {eb : Nat → Br} (R : Right m ns es nb eb) (v vm : Value) (gv : Nat → Value) (x : Br) (w : World) (E : Int) (N1 N2 : Nat) (hE : addS (barE m x) (addE Br.id eb nb x) = E) (h1 : (if E = 0 then ns else 0) = N1) (h2 : (if E = 0 then nb + 1 else 0) = N2) (h : StAt w v ns es nb eb) (hm : MatAt w vm m gv) (hz : x.id.size ≤ 2147483648 ∧ x.heat.size ≤ 2147483648) (hml : MaxLenIs w) :
    Calls Tryz.prog 12 #[v, vm, x.val] w fun e w' => ∃ oa ca ob cb, e = .returned (.tuple #[.agg #[.slice oa N1 ca, .slice ob N2 cb], .int .i64 E]) ∧ StAt w' (.agg #[.slice oa N1 ca, .slice ob N2 cb]) N1 es N2 (insF eb (placeI Br.id eb nb x.id) x) ∧ Below w.heap.size w w' := by
  have q1 := R.n1
  have q2 := R.n2
  refine (RAddBar_any v ns es nb eb vm m gv x w h hm (by omega) (by omega) R.bsc hz.1 hz.2 hml).mono ?_
  rintro e w' ⟨v', rfl, hst, hb⟩
  rw [hE, h1, h2] at hst
  rw [hE]
  obtain ⟨oa, ca, ob, cb, rfl⟩ := hst.slices
  exact ⟨oa, ca, ob, cb, rfl, hst, hb⟩
theorem takeBar_gen {m : Mat} {ns nb : Nat} {es : Nat → Sh} {eb : Nat → Br} (R : Right m ns es nb eb) (v : Value) (s : ByteArray) (w : World) (X : Br) (E : Int) (N1 N2 : Nat) (hX : takeV Br.id Br.none eb nb s = X) (hE : takeE Br.id eb nb s = E) (h1 : (if E = 0 then ns else 0) = N1) (h2 : (if E = 0 then nb - 1 else 0) = N2) (h : StAt w v ns es nb eb) :
    Calls Tryz.prog 16 #[v, .string s] w fun e w' => ∃ oa ca ob cb, e = .returned (.tuple #[.agg #[.slice oa N1 ca, .slice ob N2 cb], X.val, .int .i64 E]) ∧ StAt w' (.agg #[.slice oa N1 ca, .slice ob N2 cb]) N1 es N2 (delF eb (placeI Br.id eb nb s)) ∧ Below w.heap.size w w' := by
  have q1 := R.n1
  have q2 := R.n2
  refine (TakeBar_any v ns es nb eb s w h (by omega) (by omega) R.bsc).mono ?_
  rintro e w' ⟨v', rfl, hst, hb⟩
  rw [hE, h1, h2] at hst
  rw [hX, hE]
  obtain ⟨oa, ca, ob, cb, rfl⟩ := hst.slices
  exact ⟨oa, ca, ob, cb, rfl, hst, hb⟩
theorem rtakeBar_gen {m : Mat} {ns nb : Nat} {es : Nat → Sh} {eb : Nat → Br} (R : Right m ns es nb eb) (v : Value) (s : ByteArray) (w : World) (X : Br) (E : Int) (N1 N2 : Nat) (hX : takeV Br.id Br.none eb nb s = X) (hE : takeE Br.id eb nb s = E) (h1 : (if E = 0 then ns else 0) = N1) (h2 : (if E = 0 then nb - 1 else 0) = N2) (h : StAt w v ns es nb eb) :
    Calls Tryz.prog 17 #[v, .string s] w fun e w' => ∃ oa ca ob cb, e = .returned (.tuple #[.agg #[.slice oa N1 ca, .slice ob N2 cb], X.val, .int .i64 E]) ∧ StAt w' (.agg #[.slice oa N1 ca, .slice ob N2 cb]) N1 es N2 (delF eb (placeI Br.id eb nb s)) ∧ Below w.heap.size w w' := by
  have q1 := R.n1
  have q2 := R.n2
  refine (RTakeBar_any v ns es nb eb s w h (by omega) (by omega) R.bsc).mono ?_
  rintro e w' ⟨v', rfl, hst, hb⟩
  rw [hE, h1, h2] at hst
  rw [hX, hE]
  obtain ⟨oa, ca, ob, cb, rfl⟩ := hst.slices
  exact ⟨oa, ca, ob, cb, rfl, hst, hb⟩
end Go.Proofs.YtiddpaaihloopaaGreatDoor
