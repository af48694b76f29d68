/-
  Two elements added in either order. Conditions: none. By an AI agent.
-/
import Derived.Test.YtiddpaaihloopaaGreatDoorStockM
namespace Go.Proofs.YtiddpaaihloopaaGreatDoor
open Go Go.ChangeShapes Go.WideShapes Go.RowKit Go.ChangeAt
set_option linter.unusedSimpArgs false
set_option linter.unusedVariables false
set_option maxRecDepth 100000

section
variable {α : Type} {f : α → ByteArray} {e : Nat → α} {n : Nat} {x y : α}
def secE (f : α → ByteArray) (e : Nat → α) (n : Nat) (x y : α) : Int := addE f (insF e (placeI f e n (f x)) x) (n + 1) y
def both (f : α → ByteArray) (e : Nat → α) (n : Nat) (x y : α) : Nat → α := insF (insF e (placeI f e n (f x)) x) (placeI f (insF e (placeI f e n (f x)) x) (n + 1) (f y)) y
theorem two_lt (ha : AscB f e n) (hx : foundB f e n (f x) = false) (hy : foundB f e n (f y) = false) (h : ltB (f y) (f x) = true) : secE f e n x y = secE f e n y x ∧ both f e n x y = both f e n y x := by
  have px := place_placeF ha hx
  have py := place_placeF ha hy
  have hji := place_le (ltR_trans f) (ltR_irrefl f) px py h
  obtain ⟨a1, a2⟩ := placeF_place (place_ins_lt (ltR_trans f) (ltR_irrefl f) px py h)
  obtain ⟨b1, b2⟩ := placeF_place (place_ins_gt (ltR_trans f) (ltR_irrefl f) py px h)
  constructor
  · unfold secE addE
    rw [a2, b2]
  · unfold both
    rw [a1, b1]
    exact ins_comm e x y hji
theorem two_any (ha : AscB f e n) (hx : addE f e n x = 0) (hy : addE f e n y = 0) : secE f e n x y = secE f e n y x ∧ (secE f e n x y = 0 → both f e n x y = both f e n y x) := by
  obtain ⟨hx', -⟩ := addE_zero hx
  obtain ⟨hy', -⟩ := addE_zero hy
  by_cases hq : f x = f y
  · have hs : ∀ u v : α, f u = f v → addE f e n u = 0 → secE f e n u v = 7 := fun u v huv hu => by
      have h5 := (add_facts ha hu (fun _ => 0) (fun _ _ => rfl) rfl (fun _ => True) (fun _ _ => trivial) trivial).2.2.2.2.1
      unfold secE addE
      rw [← huv, if_pos h5]
    rw [hs x y hq hx, hs y x hq.symm hy]
    exact ⟨rfl, fun h => by cases h⟩
  · cases hl : ltB (f y) (f x) with
    | true =>
      have := two_lt ha hx' hy' hl
      exact ⟨this.1, fun _ => this.2⟩
    | false =>
      have := two_lt ha hy' hx' (ltB_total hl (fun h => hq h.symm))
      exact ⟨this.1.symm, fun _ => this.2.symm⟩
end
theorem ShAt.congr {w : World} {v : Value} {n : Nat} {e e' : Nat → Sh} (h : ShAt w v n e) (hq : ∀ i, i < n → e i = e' i) : ShAt w v n e' := by
  obtain ⟨oa, cap, h1, h2, h3, h4⟩ := h
  refine ⟨oa, cap, h1, h2, h3, fun h0 => ?_⟩
  obtain ⟨b, off, h5, h6, h7⟩ := h4 h0
  exact ⟨b, off, h5, h6, fun i j hi hj => by have := h7 i j hi hj; dsimp only at this ⊢; rw [hq i hi] at this; exact this⟩
theorem BrAt.congr {w : World} {v : Value} {n : Nat} {e e' : Nat → Br} (h : BrAt w v n e) (hq : ∀ i, i < n → e i = e' i) : BrAt w v n e' := by
  obtain ⟨oa, cap, h1, h2, h3, h4⟩ := h
  refine ⟨oa, cap, h1, h2, h3, fun h0 => ?_⟩
  obtain ⟨b, off, h5, h6, h7⟩ := h4 h0
  exact ⟨b, off, h5, h6, fun i j hi hj => by have := h7 i j hi hj; dsimp only at this ⊢; rw [hq i hi] at this; exact this⟩

theorem addSheet_gen {m : Mat} {ns nb : Nat} {es : Nat → Sh} {eb : Nat → Br} (R : Right m ns es nb eb) (v vm : Value) (gv : Nat → Value) (x : Sh) (w : World) (E : Int) (N1 N2 : Nat) (hE : addS (sheetE m x) (addE Sh.id es ns x) = E) (h1 : (if E = 0 then ns + 1 else 0) = N1) (h2 : (if E = 0 then nb else 0) = N2) (h : StAt w v ns es nb eb) (hm : MatAt w vm m gv) (hz : x.id.size ≤ 2147483648 ∧ x.heat.size ≤ 2147483648) (hml : MaxLenIs w) :
    Calls Tryz.prog 9 #[v, vm, x.val] w fun e w' => ∃ oa ca ob cb, e = .returned (.tuple #[.agg #[.slice oa N1 ca, .slice ob N2 cb], .int .i64 E]) ∧ StAt w' (.agg #[.slice oa N1 ca, .slice ob N2 cb]) N1 (insF es (placeI Sh.id es ns x.id) x) N2 eb ∧ Below w.heap.size w w' := by
  have q1 := R.n1
  have q2 := R.n2
  refine (AddSheet_any v ns es nb eb vm m gv x w h hm (by omega) (by omega) R.asc hz.1 hz.2 hml).mono ?_
  rintro e w' ⟨v', rfl, hst, hnw, hb⟩
  rw [hE, h1, h2] at hst
  rw [hE]
  obtain ⟨oa, ca, ob, cb, rfl⟩ := hst.slices
  exact ⟨oa, ca, ob, cb, rfl, hst, hb⟩
theorem addSheet_sec {m : Mat} {ns nb : Nat} {es : Nat → Sh} {eb : Nat → Br} (R : Right m ns es nb eb) (v vm : Value) (gv : Nat → Value) (x y : Sh) (w : World) (E : Int) (N1 N2 : Nat) (hx : addS (sheetE m x) (addE Sh.id es ns x) = 0) (hy : addS (sheetE m y) (addE Sh.id es ns y) = 0) (hE : secE Sh.id es ns x y = E) (h1 : (if E = 0 then ns + 1 + 1 else 0) = N1) (h2 : (if E = 0 then nb else 0) = N2) (h : StAt w v (ns + 1) (insF es (placeI Sh.id es ns x.id) x) nb eb) (hm : MatAt w vm m gv) (hz : y.id.size ≤ 2147483648 ∧ y.heat.size ≤ 2147483648) (hml : MaxLenIs w) :
    Calls Tryz.prog 9 #[v, vm, y.val] w fun e w' => ∃ oa ca ob cb, e = .returned (.tuple #[.agg #[.slice oa N1 ca, .slice ob N2 cb], .int .i64 E]) ∧ StAt w' (.agg #[.slice oa N1 ca, .slice ob N2 cb]) N1 (both Sh.id es ns x y) N2 eb ∧ Below w.heap.size w w' := by
  have q1 := R.n1
  have q2 := R.n2
  obtain ⟨p1, p2⟩ := addSheet_parts hx
  obtain ⟨p3, p4⟩ := addSheet_parts hy
  obtain ⟨a1, a2, a3, a4, a5, a6⟩ := add_facts R.asc p2 (sheetE m) R.s p1 (fun _ => True) (fun _ _ => trivial) trivial
  have hE' : addS (sheetE m y) (addE Sh.id (insF es (placeI Sh.id es ns x.id) x) (ns + 1) y) = E := by
    unfold addS
    rw [p3, if_neg (by decide)]
    exact hE
  refine (AddSheet_any v (ns + 1) (insF es (placeI Sh.id es ns x.id) x) nb eb vm m gv y w h hm (by omega) (by omega) a2 hz.1 hz.2 hml).mono ?_
  rintro e w' ⟨v', rfl, hst, hnw, hb⟩
  rw [hE', h1, h2] at hst
  rw [hE']
  obtain ⟨oa, ca, ob, cb, rfl⟩ := hst.slices
  exact ⟨oa, ca, ob, cb, rfl, hst, hb⟩
theorem addSheet_sec2 {m : Mat} {ns nb : Nat} {es : Nat → Sh} {eb : Nat → Br} (R : Right m ns es nb eb) (v vm : Value) (gv : Nat → Value) (x y : Sh) (w : World) (E : Int) (N1 N2 : Nat) (hx : addS (sheetE m x) (addE Sh.id es ns x) = 0) (hy : addS (sheetE m y) (addE Sh.id es ns y) = 0) (hE : secE Sh.id es ns x y = E) (h1 : (if E = 0 then ns + 1 + 1 else 0) = N1) (h2 : (if E = 0 then nb else 0) = N2) (h : StAt w v (ns + 1) (insF es (placeI Sh.id es ns y.id) y) nb eb) (hm : MatAt w vm m gv) (hz : x.id.size ≤ 2147483648 ∧ x.heat.size ≤ 2147483648) (hml : MaxLenIs w) :
    Calls Tryz.prog 9 #[v, vm, x.val] w fun e w' => ∃ oa ca ob cb, e = .returned (.tuple #[.agg #[.slice oa N1 ca, .slice ob N2 cb], .int .i64 E]) ∧ StAt w' (.agg #[.slice oa N1 ca, .slice ob N2 cb]) N1 (both Sh.id es ns x y) N2 eb ∧ Below w.heap.size w w' := by
  obtain ⟨t1, t2⟩ := two_any R.asc (addSheet_parts hx).2 (addSheet_parts hy).2
  refine (addSheet_sec R v vm gv y x w E N1 N2 hy hx (t1.symm.trans hE) h1 h2 h hm hz hml).mono ?_
  rintro e w' ⟨oa, ca, ob, cb, rfl, ⟨va, vb, he, hs, hbr⟩, hb⟩
  refine ⟨oa, ca, ob, cb, rfl, ⟨va, vb, he, ?_, hbr⟩, hb⟩
  refine hs.congr fun i hi => ?_
  by_cases h0 : E = 0
  · rw [t2 (hE.trans h0)]
  · rw [if_neg h0] at h1
    omega

theorem addBar_gen {m : Mat} {ns nb : Nat} {es : Nat → Sh} {eb : Nat → Br} (R : Right m ns es nb eb) (v vm : Value) (gv : Nat → Value) (x : Br) (w : World) (E : Int) (N1 N2 : Nat) (hE : addS (barE m x) (addE Br.id eb nb x) = E) (h1 : (if E = 0 then ns else 0) = N1) (h2 : (if E = 0 then nb + 1 else 0) = N2) (h : StAt w v ns es nb eb) (hm : MatAt w vm m gv) (hz : x.id.size ≤ 2147483648 ∧ x.heat.size ≤ 2147483648) (hml : MaxLenIs w) :
    Calls Tryz.prog 11 #[v, vm, x.val] w fun e w' => ∃ oa ca ob cb, e = .returned (.tuple #[.agg #[.slice oa N1 ca, .slice ob N2 cb], .int .i64 E]) ∧ StAt w' (.agg #[.slice oa N1 ca, .slice ob N2 cb]) N1 es N2 (insF eb (placeI Br.id eb nb x.id) x) ∧ Below w.heap.size w w' := by
  have q1 := R.n1
  have q2 := R.n2
  refine (AddBar_any v ns es nb eb vm m gv x w h hm (by omega) (by omega) R.bsc hz.1 hz.2 hml).mono ?_
  rintro e w' ⟨v', rfl, hst, hnw, hb⟩
  rw [hE, h1, h2] at hst
  rw [hE]
  obtain ⟨oa, ca, ob, cb, rfl⟩ := hst.slices
  exact ⟨oa, ca, ob, cb, rfl, hst, hb⟩
theorem addBar_sec {m : Mat} {ns nb : Nat} {es : Nat → Sh} {eb : Nat → Br} (R : Right m ns es nb eb) (v vm : Value) (gv : Nat → Value) (x y : Br) (w : World) (E : Int) (N1 N2 : Nat) (hx : addS (barE m x) (addE Br.id eb nb x) = 0) (hy : addS (barE m y) (addE Br.id eb nb y) = 0) (hE : secE Br.id eb nb x y = E) (h1 : (if E = 0 then ns else 0) = N1) (h2 : (if E = 0 then nb + 1 + 1 else 0) = N2) (h : StAt w v ns es (nb + 1) (insF eb (placeI Br.id eb nb x.id) x)) (hm : MatAt w vm m gv) (hz : y.id.size ≤ 2147483648 ∧ y.heat.size ≤ 2147483648) (hml : MaxLenIs w) :
    Calls Tryz.prog 11 #[v, vm, y.val] w fun e w' => ∃ oa ca ob cb, e = .returned (.tuple #[.agg #[.slice oa N1 ca, .slice ob N2 cb], .int .i64 E]) ∧ StAt w' (.agg #[.slice oa N1 ca, .slice ob N2 cb]) N1 es N2 (both Br.id eb nb x y) ∧ Below w.heap.size w w' := by
  have q1 := R.n1
  have q2 := R.n2
  obtain ⟨p1, p2⟩ := addBar_parts hx
  obtain ⟨p3, p4⟩ := addBar_parts hy
  obtain ⟨a1, a2, a3, a4, a5, a6⟩ := add_facts R.bsc p2 (barE m) R.b p1 (fun _ => True) (fun _ _ => trivial) trivial
  have hE' : addS (barE m y) (addE Br.id (insF eb (placeI Br.id eb nb x.id) x) (nb + 1) y) = E := by
    unfold addS
    rw [p3, if_neg (by decide)]
    exact hE
  refine (AddBar_any v ns es (nb + 1) (insF eb (placeI Br.id eb nb x.id) x) vm m gv y w h hm (by omega) (by omega) a2 hz.1 hz.2 hml).mono ?_
  rintro e w' ⟨v', rfl, hst, hnw, hb⟩
  rw [hE', h1, h2] at hst
  rw [hE']
  obtain ⟨oa, ca, ob, cb, rfl⟩ := hst.slices
  exact ⟨oa, ca, ob, cb, rfl, hst, hb⟩
theorem addBar_sec2 {m : Mat} {ns nb : Nat} {es : Nat → Sh} {eb : Nat → Br} (R : Right m ns es nb eb) (v vm : Value) (gv : Nat → Value) (x y : Br) (w : World) (E : Int) (N1 N2 : Nat) (hx : addS (barE m x) (addE Br.id eb nb x) = 0) (hy : addS (barE m y) (addE Br.id eb nb y) = 0) (hE : secE Br.id eb nb x y = E) (h1 : (if E = 0 then ns else 0) = N1) (h2 : (if E = 0 then nb + 1 + 1 else 0) = N2) (h : StAt w v ns es (nb + 1) (insF eb (placeI Br.id eb nb y.id) y)) (hm : MatAt w vm m gv) (hz : x.id.size ≤ 2147483648 ∧ x.heat.size ≤ 2147483648) (hml : MaxLenIs w) :
    Calls Tryz.prog 11 #[v, vm, x.val] w fun e w' => ∃ oa ca ob cb, e = .returned (.tuple #[.agg #[.slice oa N1 ca, .slice ob N2 cb], .int .i64 E]) ∧ StAt w' (.agg #[.slice oa N1 ca, .slice ob N2 cb]) N1 es N2 (both Br.id eb nb x y) ∧ Below w.heap.size w w' := by
  obtain ⟨t1, t2⟩ := two_any R.bsc (addBar_parts hx).2 (addBar_parts hy).2
  refine (addBar_sec R v vm gv y x w E N1 N2 hy hx (t1.symm.trans hE) h1 h2 h hm hz hml).mono ?_
  rintro e w' ⟨oa, ca, ob, cb, rfl, ⟨va, vb, he, hs, hbr⟩, hb⟩
  refine ⟨oa, ca, ob, cb, rfl, ⟨va, vb, he, hs, ?_⟩, hb⟩
  refine hbr.congr fun i hi => ?_
  by_cases h0 : E = 0
  · rw [t2 (hE.trans h0)]
  · rw [if_neg h0] at h2
    omega

section
variable {H : Type} {enc : TypeId × Value → H} {P : Program} {w : World} {base : Nat} {spare : Nat → Bool} {held : Bool}
theorem okWide_array {t e : TypeId} {n : Nat} {v : Value} {r : Reach} {b0 : Nat} (ht : P.underlying t = some (.array n e)) (h : Value.okWide P w r b0 t v) : ∃ cs, v = .agg cs ∧ cs.size = P.cellsOf t := by
  simp only [Value.okWide, ht] at h
  obtain ⟨cs, h1, h2, _⟩ := h
  exact ⟨cs, h1, h2⟩
theorem leaf_array {t e : TypeId} {n k : Nat} {v : Value} {d : DataW H} {ps : List MemPlace} {r : Reach} {b0 : Nat} (hu : P.underlying t = some (.array n e)) (hc : P.cellsOf t = k) (hv : Value.okWide P w r b0 t v) (h : DataW.Trod enc P w base spare held t v d ps) :
    ∃ cs : List Value, v = .agg cs.toArray ∧ cs.length = k ∧ ∀ j c, cs[j]? = some c → ∀ n u, leafAt P n t j = some u → ∃ fuel' x', DataW.trod enc P w base spare held fuel' u [c] = some x' := by
  obtain ⟨⟨l⟩, rfl, hsz⟩ := okWide_array hu hv
  obtain ⟨fuel, hf⟩ := h
  exact ⟨l, rfl, by simpa using hsz.trans hc, fun j c hj n u hu' => leaf_of n t j u hu' fuel l _ c (by simpa [Value.cells] using hf) hj⟩
end

section
variable {H : Type} {enc : TypeId × Value → H} {W : World}
end
end Go.Proofs.YtiddpaaihloopaaGreatDoor
