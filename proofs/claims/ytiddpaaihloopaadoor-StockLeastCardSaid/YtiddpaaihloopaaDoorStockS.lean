/-
  What is picked is large enough, and none that is large enough is smaller. Conditions: none. By an AI agent.
-/
import Derived.Test.YtiddpaaihloopaaDoorStockM
namespace Go.Proofs.YtiddpaaihloopaaDoor
open Go Go.ChangeShapes Go.WideShapes Go.RowKit Go.ChangeAt
set_option linter.unusedVariables false
set_option linter.unusedSimpArgs false
set_option maxRecDepth 100000
def mS (g : ByteArray) (t l d : Int) (x : Sh) : Bool := x.grade.toList == g.toList && (x.thick == t && fitsB x l d)
def mB (sc g : ByteArray) (l : Int) (x : Br) : Bool := x.sect.toList == sc.toList && (x.grade.toList == g.toList && decide (l ≤ x.len))
def arS (x : Sh) : Int := x.len * x.wid
theorem fits_mx (x : Sh) (l d : Int) : (decide (mx l d ≤ mx x.len x.wid) && decide (mn l d ≤ mn x.len x.wid)) = fitsB x l d := by
  unfold fitsB mx mn
  rw [Bool.eq_iff_iff]
  simp only [Bool.and_eq_true, Bool.or_eq_true, decide_eq_true_eq]
  (repeat' split) <;> omega
section
variable {α : Type} (M : α → Bool) (ar : α → Int) (f : α → ByteArray) (e : Nat → α)
def stepG (s : ByteArray × Bool × Int) (x : α) : ByteArray × Bool × Int := if M x && (!s.2.1 || decide (ar x < s.2.2)) then (f x, true, ar x) else s
def pickG : Nat → ByteArray × Bool × Int
  | 0 => (⟨#[]⟩, false, 0)
  | j + 1 => stepG M ar f (pickG j) (e j)
theorem pickG_spec : ∀ n, ∃ id ok a, pickG M ar f e n = (id, ok, a) ∧ (ok = false → id = ⟨#[]⟩ ∧ ∀ i, i < n → M (e i) = false) ∧ (ok = true → ∃ j, j < n ∧ M (e j) = true ∧ id = f (e j) ∧ a = ar (e j) ∧ ∀ i, i < n → M (e i) = true → a ≤ ar (e i))
  | 0 => ⟨_, _, _, rfl, fun _ => ⟨rfl, fun i hi => absurd hi (by omega)⟩, fun h => by cases h⟩
  | n + 1 => by
    obtain ⟨id, ok, a, h1, h2, h3⟩ := pickG_spec n
    show ∃ id ok a, stepG M ar f (pickG M ar f e n) (e n) = _ ∧ _
    rw [h1]
    unfold stepG
    dsimp only
    cases hM : M (e n) with
    | false =>
      refine ⟨id, ok, a, by simp, fun h => ⟨(h2 h).1, fun i hi => ?_⟩, fun h => ?_⟩
      · by_cases hin : i = n
        · subst hin; exact hM
        · exact (h2 h).2 i (by omega)
      · obtain ⟨j, q1, q2, q3, q4, q5⟩ := h3 h
        refine ⟨j, by omega, q2, q3, q4, fun i hi hm => ?_⟩
        by_cases hin : i = n
        · subst hin; rw [hM] at hm; cases hm
        · exact q5 i (by omega) hm
    | true =>
      cases ok with
      | false =>
        refine ⟨f (e n), true, ar (e n), (by simp), fun h => (by cases h), fun _ => ⟨n, by omega, hM, rfl, rfl, fun i hi hm => ?_⟩⟩
        by_cases hin : i = n
        · subst hin; exact Int.le_refl _
        · rw [(h2 rfl).2 i (by omega)] at hm; cases hm
      | true =>
        obtain ⟨j, q1, q2, q3, q4, q5⟩ := h3 rfl
        by_cases hl : ar (e n) < a
        · refine ⟨f (e n), true, ar (e n), (by simp [hl]), fun h => (by cases h), fun _ => ⟨n, by omega, hM, rfl, rfl, fun i hi hm => ?_⟩⟩
          by_cases hin : i = n
          · subst hin; exact Int.le_refl _
          · have := q5 i (by omega) hm; omega
        · refine ⟨id, true, a, by simp [hl], fun h => (by cases h), fun _ => ⟨j, by omega, q2, q3, q4, fun i hi hm => ?_⟩⟩
          by_cases hin : i = n
          · subst hin; omega
          · exact q5 i (by omega) hm
structure LeastG (n : Nat) (z : α) (ID : ByteArray) (OK : Bool) (X : α) (E : Int) : Prop where
  yes : OK = true → E = 0 ∧ M X = true ∧ ∀ i, i < n → M (e i) = true → ar X ≤ ar (e i)
  no : OK = false → ID = ⟨#[]⟩ ∧ ∀ i, i < n → M (e i) = false
  mem : X = z ∨ ∃ j, j < n ∧ X = e j
theorem leastG {n : Nat} {z : α} {ID : ByteArray} {OK : Bool} (ha : AscB f e n) (h1 : (pickG M ar f e n).1 = ID) (h2 : (pickG M ar f e n).2.1 = OK) : LeastG M ar e n z ID OK (takeV f z e n ID) (takeE f e n ID) := by
  obtain ⟨id, ok, a, p1, p2, p3⟩ := pickG_spec M ar f e n
  rw [p1] at h1 h2
  dsimp only at h1 h2
  subst h1 h2
  refine ⟨fun h => ?_, p2, ?_⟩
  · obtain ⟨j, q1, q2, q3, q4, q5⟩ := p3 h
    have hf : foundB f e n id = true := (found_iff ha).2 ⟨j, q1, q3.symm⟩
    have hp : placeI f e n id = j := by rw [q3]; exact found_at ha q1
    unfold takeE takeV
    rw [if_pos hf, if_pos hf, hp]
    exact ⟨rfl, q2, fun i hi hm => by rw [← q4]; exact q5 i hi hm⟩
  · unfold takeV
    split
    · rename_i hf
      refine .inr ⟨_, ?_, rfl⟩
      unfold foundB at hf
      simp only [Bool.and_eq_true, decide_eq_true_eq] at hf
      exact hf.1
    · exact .inl rfl
end
theorem pickS_G (g : ByteArray) (t l d : Int) (e : Nat → Sh) : ∀ n, pickS g t l d e n = pickG (mS g t l d) arS Sh.id e n
  | 0 => rfl
  | n + 1 => by
    show stepS g t l d (pickS g t l d e n) (e n) = stepG _ _ _ (pickG _ _ _ _ n) (e n)
    rw [pickS_G g t l d e n]
    unfold stepS stepG mS arS
    rw [← fits_mx]
    simp only [Bool.and_assoc]
theorem pickB_G (sc g : ByteArray) (l : Int) (e : Nat → Br) : ∀ n, pickB sc g l e n = pickG (mB sc g l) Br.len Br.id e n
  | 0 => rfl
  | n + 1 => by
    show stepB sc g l (pickB sc g l e n) (e n) = stepG _ _ _ (pickG _ _ _ _ n) (e n)
    rw [pickB_G sc g l e n]
    unfold stepB stepG mB
    simp only [Bool.and_assoc]
theorem side_is {n : Int} (h : sideB n = true) : 1 ≤ n ∧ n ≤ 32768 := by
  unfold sideB at h
  simpa using h
section
variable {m : Mat} {ns nb : Nat} {es : Nat → Sh} {eb : Nat → Br} (R : Right m ns es nb eb)
include R
theorem Right.sides : ∀ i, i < ns → (1 ≤ (es i).len ∧ (es i).len ≤ 32768) ∧ (1 ≤ (es i).wid ∧ (es i).wid ≤ 32768) := by
  intro i hi
  have h := R.s i hi
  unfold sheetE at h
  split at h
  · cases h
  · split at h
    · cases h
    · split at h
      · cases h
      · rename_i h3
        simp only [Bool.not_eq_false, Bool.and_eq_true] at h3
        exact ⟨side_is h3.1, side_is h3.2⟩
theorem Right.bsides : ∀ i, i < nb → (1 ≤ (eb i).len ∧ (eb i).len ≤ 32768) := by
  intro i hi
  have h := R.b i hi
  unfold barE at h
  split at h
  · cases h
  · split at h
    · cases h
    · split at h
      · cases h
      · rename_i h3
        simp only [Bool.not_eq_false] at h3
        exact side_is h3
theorem least_Sheet {g : ByteArray} {t l d : Int} {ID : ByteArray} {OK : Bool} {X : Sh} {E : Int} (hl : ¬ l < 1) (hd : ¬ d < 1) (h1 : (pickFS g t l d es ns).1 = ID) (h2 : (pickFS g t l d es ns).2 = OK) (hX : takeV Sh.id Sh.none es ns ID = X) (hE : takeE Sh.id es ns ID = E) : LeastG (mS g t l d) arS es ns Sh.none ID OK X E := by
  unfold pickFS at h1 h2
  rw [if_neg (by omega), pickS_G] at h1 h2
  subst hX hE
  exact leastG _ _ _ _ R.asc h1 h2
theorem least_Bar {sc g : ByteArray} {l : Int} {ID : ByteArray} {OK : Bool} {X : Br} {E : Int} (hl : ¬ l < 1) (h1 : (pickFB sc g l eb nb).1 = ID) (h2 : (pickFB sc g l eb nb).2 = OK) (hX : takeV Br.id Br.none eb nb ID = X) (hE : takeE Br.id eb nb ID = E) : LeastG (mB sc g l) Br.len eb nb Br.none ID OK X E := by
  unfold pickFB at h1 h2
  rw [if_neg hl, pickB_G] at h1 h2
  subst hX hE
  exact leastG _ _ _ _ R.bsc h1 h2
theorem pickSheet_at {g : ByteArray} {t l d : Int} {ID : ByteArray} {OK : Bool} (h1 : (pickFS g t l d es ns).1 = ID) (h2 : (pickFS g t l d es ns).2 = OK) (v : Value) (w : World) (h : StAt w v ns es nb eb) :
    Calls Tryd.prog 20 #[v, .string g, .int .i64 t, .int .i64 l, .int .i64 d] w fun e w' => e = .returned (.tuple #[.string ID, .bool OK]) ∧ Below w.heap.size w w' := by
  have := PickSheet_any v ns es nb eb g t l d w h R.sides
  rwa [h1, h2] at this
theorem pickBar_at {sc g : ByteArray} {l : Int} {ID : ByteArray} {OK : Bool} (h1 : (pickFB sc g l eb nb).1 = ID) (h2 : (pickFB sc g l eb nb).2 = OK) (v : Value) (w : World) (h : StAt w v ns es nb eb) :
    Calls Tryd.prog 22 #[v, .string sc, .string g, .int .i64 l] w fun e w' => e = .returned (.tuple #[.string ID, .bool OK]) ∧ Below w.heap.size w w' := by
  have := PickBar_any v ns es nb eb sc g l w h R.bsides
  rwa [h1, h2] at this
theorem takeSheet_at {ID : ByteArray} {X : Sh} {E : Int} (hX : takeV Sh.id Sh.none es ns ID = X) (hE : takeE Sh.id es ns ID = E) (v : Value) (w : World) (h : StAt w v ns es nb eb) :
    Calls Tryd.prog 17 #[v, .string ID] w fun e w' => ∃ oa na ca ob nb cb, e = .returned (.tuple #[.agg #[.slice oa na ca, .slice ob nb cb], X.val, .int .i64 E]) ∧ Below w.heap.size w w' := by
  have q1 := R.n1
  have q2 := R.n2
  refine (TakeSheet_any v ns es nb eb ID w h (by omega) (by omega) R.asc).mono ?_
  rintro e w' ⟨v', rfl, hst, hb⟩
  obtain ⟨oa, ca, ob, cb, rfl⟩ := hst.slices
  rw [hX, hE]
  exact ⟨_, _, _, _, _, _, rfl, hb⟩
theorem takeBar_at {ID : ByteArray} {X : Br} {E : Int} (hX : takeV Br.id Br.none eb nb ID = X) (hE : takeE Br.id eb nb ID = E) (v : Value) (w : World) (h : StAt w v ns es nb eb) :
    Calls Tryd.prog 19 #[v, .string ID] w fun e w' => ∃ oa na ca ob nb cb, e = .returned (.tuple #[.agg #[.slice oa na ca, .slice ob nb cb], X.val, .int .i64 E]) ∧ Below w.heap.size w w' := by
  have q1 := R.n1
  have q2 := R.n2
  refine (TakeBar_any v ns es nb eb ID w h (by omega) (by omega) R.bsc).mono ?_
  rintro e w' ⟨v', rfl, hst, hb⟩
  obtain ⟨oa, ca, ob, cb, rfl⟩ := hst.slices
  rw [hX, hE]
  exact ⟨_, _, _, _, _, _, rfl, hb⟩
end
theorem mS_split {g : ByteArray} {t l d : Int} {x : Sh} (h : mS g t l d x = true) : (x.grade.toList == g.toList) = true ∧ (x.thick == t) = true ∧ fitsB x l d = true := by
  unfold mS at h
  simp only [Bool.and_eq_true] at h
  exact ⟨h.1, h.2.1, h.2.2⟩
theorem mB_split {sc g : ByteArray} {l : Int} {x : Br} (h : mB sc g l x = true) : (x.sect.toList == sc.toList) = true ∧ (x.grade.toList == g.toList) = true ∧ decide (l ≤ x.len) = true := by
  unfold mB at h
  simp only [Bool.and_eq_true] at h
  exact ⟨h.1, h.2.1, h.2.2⟩
theorem mS_last {g : ByteArray} {t l d : Int} {x : Sh} (h1 : (x.grade.toList == g.toList) = true) (h2 : (x.thick == t) = true) : mS g t l d x = fitsB x l d := by
  unfold mS
  rw [h1, h2]
  rfl
theorem mB_last {sc g : ByteArray} {l : Int} {x : Br} (h1 : (x.sect.toList == sc.toList) = true) (h2 : (x.grade.toList == g.toList) = true) : mB sc g l x = decide (l ≤ x.len) := by
  unfold mB
  rw [h1, h2]
  rfl
/-- a plate's area fits -/
theorem ar_wrap {x : Sh} (h : (0 ≤ x.len ∧ x.len ≤ 32768) ∧ (0 ≤ x.wid ∧ x.wid ≤ 32768)) : IntKind.i64.wrap (x.len * x.wid) = arS x := by
  obtain ⟨⟨p1, p2⟩, p3, p4⟩ := h
  have q1 : 0 ≤ x.len * x.wid := Int.mul_nonneg (by omega) (by omega)
  have q2 : x.len * x.wid ≤ 32768 * 32768 := Int.mul_le_mul p2 p4 (by omega) (by omega)
  exact IntWalk.i64_in _ (by omega)
theorem Right.none_or {m : Mat} {ns nb : Nat} {es : Nat → Sh} {eb : Nat → Br} (R : Right m ns es nb eb) {X : Sh} (h : X = Sh.none ∨ ∃ j, j < ns ∧ X = es j) : (0 ≤ X.len ∧ X.len ≤ 32768) ∧ (0 ≤ X.wid ∧ X.wid ≤ 32768) := by
  rcases h with h | ⟨i, hi, h⟩
  · subst h
    exact ⟨⟨by decide, by decide⟩, by decide, by decide⟩
  · subst h
    have := R.sides i hi
    omega
section
variable {H : Type} {enc : TypeId × Value → H} {W : World}
theorem wish_arg {base : Nat} {r : Reach} {v : Value} {d : DataW H} {ps : List MemPlace} (hv : Value.okWide Tryd.prog W r base 53 v) (h : DataW.Trod enc Tryd.prog W 0 (fun _ => true) true 53 v d ps) : ∃ g sc t l d, v = .agg #[.string g, .string sc, .int .i64 t, .int .i64 l, .int .i64 d] := by
  obtain ⟨cs, rfl, hl, hc⟩ := leaf_struct (fs := Tryd.prog.fieldsOf 53) (k := 5) (by kernel_rfl) (by kernel_rfl) hv h
  match cs, hl with
  | [c0, c1, c2, c3, c4], _ =>
    obtain ⟨_, _, t0⟩ := hc 0 c0 rfl 8 9 (by kernel_rfl)
    obtain ⟨g, rfl, _⟩ := leaf_string Tryd.underlying9 t0
    obtain ⟨_, _, t1⟩ := hc 1 c1 rfl 8 9 (by kernel_rfl)
    obtain ⟨sc, rfl, _⟩ := leaf_string Tryd.underlying9 t1
    obtain ⟨_, _, t2⟩ := hc 2 c2 rfl 8 3 (by kernel_rfl)
    obtain ⟨t, rfl, _⟩ := leaf_i64 Tryd.underlying3 t2
    obtain ⟨_, _, t3⟩ := hc 3 c3 rfl 8 3 (by kernel_rfl)
    obtain ⟨l, rfl, _⟩ := leaf_i64 Tryd.underlying3 t3
    obtain ⟨_, _, t4⟩ := hc 4 c4 rfl 8 3 (by kernel_rfl)
    obtain ⟨d, rfl, _⟩ := leaf_i64 Tryd.underlying3 t4
    exact ⟨g, sc, t, l, d, rfl⟩
end
end Go.Proofs.YtiddpaaihloopaaDoor
