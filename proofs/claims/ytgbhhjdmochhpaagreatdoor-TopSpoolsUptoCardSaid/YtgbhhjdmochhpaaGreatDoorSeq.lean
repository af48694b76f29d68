/-
  A region that draws its order, walked once in the order of the text: each operation yields a value with a property that stays (one known value, or new memory), or makes a variable, or stores a value into one; whatever order the program takes, the end is the same. Conditions: none. By an AI agent.
-/
import Derived.Test.YtgbhhjdmochhpaaGreatDoorRel
namespace Go.Proofs.YtgbhhjdmochhpaaGreatDoor
open Go Go.RowKit
set_option linter.unusedVariables false

/-- a block's cells have been replaced, and nothing else -/
structure Stored (w w' : World) (b : Nat) (cs : Array Value) (t : TypeId) : Prop where
  os : w'.os = w.os
  tape : w'.tape = w.tape
  output : w'.output = w.output
  size : w'.heap.size = w.heap.size
  other : ∀ k, k ≠ b → w'.heap[k]? = w.heap[k]?
  here : w'.heap[b]? = some (.cells cs t)
theorem Stored.refl {w : World} {b : Nat} {cs : Array Value} {t : TypeId} (h : w.heap[b]? = some (.cells cs t)) : Stored w w b cs t := ⟨rfl, rfl, rfl, rfl, fun _ _ => rfl, h⟩
theorem Stored.set {w w' : World} {b : Nat} {cs : Array Value} {t : TypeId} (h : Stored w w' b cs t) (i : Nat) (v : Value) : Stored w (w'.setCell ⟨b, i, none⟩ v) b (cs.setIfInBounds i v) t :=
  ⟨h.os, h.tape, h.output, by rw [World.size_setCell]; exact h.size, fun k hk => by rw [heap_setCell_other _ _ _ _ hk]; exact h.other k hk, heap_setCell_same w' b i cs t v h.here⟩

theorem Stored.c1 {w : World} {b : Nat} {t : TypeId} {x0 : Value} (h : w.heap[b]? = some (.cells #[x0] t)) (p0 : Value) : Stored w (w.setCell ⟨b, 0, none⟩ p0) b #[p0] t := (Stored.refl h).set 0 p0
theorem Stored.c2 {w : World} {b : Nat} {t : TypeId} {x0 x1 : Value} (h : w.heap[b]? = some (.cells #[x0, x1] t)) (p0 p1 : Value) : Stored w ((w.setCell ⟨b, 0, none⟩ p0).setCell ⟨b, 1, none⟩ p1) b #[p0, p1] t := ((Stored.refl h).set 0 p0).set 1 p1
theorem Stored.c3 {w : World} {b : Nat} {t : TypeId} {x0 x1 x2 : Value} (h : w.heap[b]? = some (.cells #[x0, x1, x2] t)) (p0 p1 p2 : Value) : Stored w (((w.setCell ⟨b, 0, none⟩ p0).setCell ⟨b, 1, none⟩ p1).setCell ⟨b, 2, none⟩ p2) b #[p0, p1, p2] t := (((Stored.refl h).set 0 p0).set 1 p1).set 2 p2
theorem Stored.c4 {w : World} {b : Nat} {t : TypeId} {x0 x1 x2 x3 : Value} (h : w.heap[b]? = some (.cells #[x0, x1, x2, x3] t)) (p0 p1 p2 p3 : Value) : Stored w ((((w.setCell ⟨b, 0, none⟩ p0).setCell ⟨b, 1, none⟩ p1).setCell ⟨b, 2, none⟩ p2).setCell ⟨b, 3, none⟩ p3) b #[p0, p1, p2, p3] t := ((((Stored.refl h).set 0 p0).set 1 p1).set 2 p2).set 3 p3
theorem Stored.c6 {w : World} {b : Nat} {t : TypeId} {x0 x1 x2 x3 x4 x5 : Value} (h : w.heap[b]? = some (.cells #[x0, x1, x2, x3, x4, x5] t)) (p0 p1 p2 p3 p4 p5 : Value) : Stored w ((((((w.setCell ⟨b, 0, none⟩ p0).setCell ⟨b, 1, none⟩ p1).setCell ⟨b, 2, none⟩ p2).setCell ⟨b, 3, none⟩ p3).setCell ⟨b, 4, none⟩ p4).setCell ⟨b, 5, none⟩ p5) b #[p0, p1, p2, p3, p4, p5] t := ((((((Stored.refl h).set 0 p0).set 1 p1).set 2 p2).set 3 p3).set 4 p4).set 5 p5

/- WHOLE BLOCKS, BEHIND ALLOCS AND STORES. -/
def setObj (i : Nat) (v : Value) : Obj → Obj
  | .cells c e f => .cells (c.setIfInBounds i v) e f
  | o => o
theorem heapA_at (w : World) (o : Obj) (k : Nat) (h : k = w.heap.size) : (w.alloc o).heap[k]? = some o := by subst h; exact (MapKept.heap_alloc w o).1
theorem heapA_old (w : World) (o : Obj) (k : Nat) (h : k < w.heap.size) : (w.alloc o).heap[k]? = w.heap[k]? := ((Below.refl w.heap.size w).alloc (Nat.le_refl _) o).block k h
theorem heapS_other (w : World) (b i k : Nat) (v : Value) (h : k ≠ b) : (w.setCell ⟨b, i, none⟩ v).heap[k]? = w.heap[k]? := heap_setCell_other w ⟨b, i, none⟩ k v h
theorem heapS_same (w : World) (b i : Nat) (v : Value) : (w.setCell ⟨b, i, none⟩ v).heap[b]? = (w.heap[b]?).map (setObj i v) := by
  simp only [World.setCell, Array.getElem?_modify, if_true]
  congr 1

/-- a variable that a region makes: the operation that makes it, the one that stores to it, its cells at first, its type -/
structure VarRow where
  op : Nat
  st : Nat
  zs : Array Value
  ty : TypeId

/-- a block that is there already, and that an operation of the region stores to -/
structure PreRow where
  blk : Nat
  st : Nat
  zs : Array Value
  ty : TypeId
/-- nothing old has turned but these blocks -/
structure Kept (pre : List PreRow) (w0 w : World) : Prop where
  os : w.os = w0.os
  tape : w.tape = w0.tape
  output : w.output = w0.output
  size : w0.heap.size ≤ w.heap.size
  block : ∀ k, k < w0.heap.size → (∀ r ∈ pre, r.blk ≠ k) → w.heap[k]? = w0.heap[k]?
theorem Kept.of {pre : List PreRow} {w0 w : World} (h : Below w0.heap.size w0 w) : Kept pre w0 w := ⟨h.os, h.tape, h.output, h.size, fun k hk _ => h.block k hk⟩
theorem Kept.nil {w0 w : World} (h : Kept [] w0 w) : Below w0.heap.size w0 w := ⟨h.os, h.tape, h.output, h.size, fun k hk => h.block k hk (fun r hr => by cases hr)⟩
theorem Kept.on {pre : List PreRow} {w0 w w' : World} (h : Kept pre w0 w) (hb : Below w.heap.size w w') : Kept pre w0 w' :=
  ⟨hb.os.trans h.os, hb.tape.trans h.tape, hb.output.trans h.output, Nat.le_trans h.size hb.size, fun k hk hp => (hb.block k (Nat.lt_of_lt_of_le hk h.size)).trans (h.block k hk hp)⟩
theorem Kept.below {pre : List PreRow} {w0 w : World} {B : Nat} (h : Kept pre w0 w) (hB : B ≤ w0.heap.size) (hp : ∀ r ∈ pre, B ≤ r.blk) : Below B w0 w :=
  ⟨h.os, h.tape, h.output, h.size, fun k hk => h.block k (by omega) (fun r hr => by have := hp r hr; omega)⟩
theorem Kept.cell {pre : List PreRow} {w0 w : World} (h : Kept pre w0 w) (b : Nat) (hb : b < w0.heap.size) (hp : ∀ r ∈ pre, r.blk ≠ b) : (∀ o, w.cell? ⟨b, o, none⟩ = w0.cell? ⟨b, o, none⟩) ∧ (∀ o, w.frozen? ⟨b, o, none⟩ = w0.frozen? ⟨b, o, none⟩) :=
  ⟨fun o => World.cell?_of_block (h.block b hb hp), fun o => World.frozen?_of_block (h.block b hb hp)⟩

def kindOf (vs : List VarRow) (ps : List Nat) (i : Nat) : Nat := if vs.any (fun r => r.op == i) then 1 else if vs.any (fun r => r.st == i) || ps.any (fun r => r == i) then 2 else 0
def okVs (vs : List VarRow) (ps : List Nat) : Bool := decide ((vs.map VarRow.op ++ (vs.map VarRow.st ++ ps)).Nodup)

theorem okVs_op {vs : List VarRow} {ps : List Nat} (h : okVs vs ps = true) : ∀ r ∈ vs, ∀ s ∈ vs, r.op ≠ s.st := by
  intro r hr s hs e
  have h1 := (List.nodup_append.1 (of_decide_eq_true h)).2.2
  exact h1 _ (List.mem_map.2 ⟨r, hr, rfl⟩) _ (List.mem_append.2 (.inl (List.mem_map.2 ⟨s, hs, rfl⟩))) e
theorem okVs_opp {vs : List VarRow} {ps : List Nat} (h : okVs vs ps = true) : ∀ r ∈ vs, ∀ p ∈ ps, r.op ≠ p := by
  intro r hr p hp e
  have h1 := (List.nodup_append.1 (of_decide_eq_true h)).2.2
  exact h1 _ (List.mem_map.2 ⟨r, hr, rfl⟩) _ (List.mem_append.2 (.inr hp)) e
theorem okVs_stp {vs : List VarRow} {ps : List Nat} (h : okVs vs ps = true) : ∀ r ∈ vs, ∀ p ∈ ps, r.st ≠ p := by
  intro r hr p hp e
  have h1 := (List.nodup_append.1 (List.nodup_append.1 (of_decide_eq_true h)).2.1).2.2
  exact h1 _ (List.mem_map.2 ⟨r, hr, rfl⟩) _ hp e
theorem nodup_same {α : Type} {f : α → Nat} : ∀ {l : List α}, (l.map f).Nodup → ∀ r ∈ l, ∀ s ∈ l, f r = f s → r = s
  | [], _, _, h, _, _, _ => by cases h
  | x :: l, hn, r, hr, s, hs, e => by
    simp only [List.map_cons, List.nodup_cons] at hn
    obtain ⟨hn1, hn2⟩ := hn
    rcases List.mem_cons.1 hr with hr1 | hr1
    · rcases List.mem_cons.1 hs with hs1 | hs1
      · rw [hr1, hs1]
      · have h2 : f x ∈ l.map f := List.mem_map.2 ⟨s, hs1, by rw [← e, hr1]⟩
        exact absurd h2 hn1
    · rcases List.mem_cons.1 hs with hs1 | hs1
      · have h2 : f x ∈ l.map f := List.mem_map.2 ⟨r, hr1, by rw [e, hs1]⟩
        exact absurd h2 hn1
      · exact nodup_same hn2 r hr1 s hs1 e
theorem okVs_op_inj {vs : List VarRow} {ps : List Nat} (h : okVs vs ps = true) : ∀ r ∈ vs, ∀ s ∈ vs, r.op = s.op → r = s := nodup_same (List.nodup_append.1 (of_decide_eq_true h)).1
theorem okVs_st_inj {vs : List VarRow} {ps : List Nat} (h : okVs vs ps = true) : ∀ r ∈ vs, ∀ s ∈ vs, r.st = s.st → r = s := nodup_same (List.nodup_append.1 (List.nodup_append.1 (of_decide_eq_true h)).2.1).1
theorem okVs_pre {vs : List VarRow} {ps : List Nat} (h : okVs vs ps = true) : ps.Nodup := (List.nodup_append.1 (List.nodup_append.1 (of_decide_eq_true h)).2.1).2.1
theorem kind_op {vs : List VarRow} {ps : List Nat} {r : VarRow} (h : r ∈ vs) : kindOf vs ps r.op = 1 := by
  unfold kindOf; rw [if_pos (List.any_eq_true.2 ⟨r, h, by simp⟩)]
theorem kind_no {vs : List VarRow} {ps : List Nat} {i : Nat} (h : ∀ r ∈ vs, r.op ≠ i) : ¬ (vs.any (fun r => r.op == i) = true) := by
  intro h1
  obtain ⟨s, hs, e⟩ := List.any_eq_true.1 h1
  exact h s hs (by simpa using e)
theorem kind_st {vs : List VarRow} {ps : List Nat} (hok : okVs vs ps = true) {r : VarRow} (h : r ∈ vs) : kindOf vs ps r.st = 2 := by
  unfold kindOf
  rw [if_neg (kind_no (ps := ps) fun s hs => okVs_op hok s hs r h), if_pos (by rw [Bool.or_eq_true]; exact .inl (List.any_eq_true.2 ⟨r, h, by simp⟩))]
theorem kind_pre {vs : List VarRow} {ps : List Nat} (hok : okVs vs ps = true) {p : Nat} (h : p ∈ ps) : kindOf vs ps p = 2 := by
  unfold kindOf
  rw [if_neg (kind_no (ps := ps) fun s hs => okVs_opp hok s hs p h), if_pos (by rw [Bool.or_eq_true]; exact .inr (List.any_eq_true.2 ⟨p, h, by simp⟩))]
theorem kind_one {vs : List VarRow} {ps : List Nat} {i : Nat} (h : kindOf vs ps i = 1) : ∃ r ∈ vs, r.op = i := by
  unfold kindOf at h
  split at h
  · rename_i h1
    obtain ⟨r, hr, e⟩ := List.any_eq_true.1 h1
    exact ⟨r, hr, by simpa using e⟩
  · split at h <;> cases h

/-- a property of a value and the world, and the blocks that it leans on -/
structure Prp where
  R : Value → World → Prop
  F : Value → Nat → Prop
  grow : ∀ v w w', Below w.heap.size w w' → R v w → R v w'
  kept : ∀ v w w' b cs t, Stored w w' b cs t → ¬ F v b → R v w → R v w'
  lt : ∀ v w b, R v w → F v b → b < w.heap.size

def Prp.is (x : Value) : Prp := ⟨fun v _ => v = x, fun _ _ => False, fun _ _ _ _ h => h, fun _ _ _ _ _ _ _ _ h => h, fun _ _ _ _ h => h.elim⟩
def Prp.any : Prp := ⟨fun _ _ => True, fun _ _ => False, fun _ _ _ _ h => h, fun _ _ _ _ _ _ _ _ h => h, fun _ _ _ _ h => h.elim⟩

section
variable {P : Program} {md : Region.Mode}

def setB (d : Nat → Bool) (i : Nat) : Nat → Bool := fun j => if j = i then true else d j
@[simp] theorem setB_self (d : Nat → Bool) (i : Nat) : setB d i i = true := by simp [setB]
theorem setB_ne {d : Nat → Bool} {i j : Nat} (h : j ≠ i) : setB d i j = d j := by simp [setB, h]
theorem upd_ne {u : Nat → Value} {i j : Nat} {v : Value} (h : j ≠ i) : upd u i v j = u j := by simp [upd, h]
theorem upd_self {u : Nat → Value} {i : Nat} {v : Value} : upd u i v i = v := by simp [upd]

/-- the state of such a region -/
structure SI (vs : List VarRow) (pre : List PreRow) (E : Nat → Prp) (w0 : World) (d : Nat → Bool) (u : Nat → Value) (w : World) : Prop where
  below : Kept pre w0 w
  val : ∀ i, kindOf vs (pre.map PreRow.st) i ≠ 1 → d i = true → (E i).R (u i) w
  var : ∀ r ∈ vs, d r.op = true → ∃ b : Nat, u r.op = .pointer (some ⟨b, 0, none⟩) ∧ w0.heap.size ≤ b ∧ w.heap[b]? = some (.cells (if d r.st = true then (u r.st).cells else r.zs) r.ty)
  old : ∀ r ∈ pre, r.blk < w0.heap.size ∧ w.heap[r.blk]? = some (.cells (if d r.st = true then (u r.st).cells else r.zs) r.ty)
  apart : ∀ r ∈ vs, ∀ s ∈ vs, r.op ≠ s.op → d r.op = true → d s.op = true → u r.op ≠ u s.op
  free : ∀ i, kindOf vs (pre.map PreRow.st) i ≠ 1 → d i = true → ∀ r ∈ vs, d r.op = true → ∀ b : Nat, u r.op = .pointer (some ⟨b, 0, none⟩) → ¬ (E i).F (u i) b
  freep : ∀ i, kindOf vs (pre.map PreRow.st) i ≠ 1 → d i = true → ∀ r ∈ pre, ¬ (E i).F (u i) r.blk
  made : ∀ r ∈ vs, d r.st = true → d r.op = true

section
variable {vs : List VarRow} {pre : List PreRow} {E : Nat → Prp} {w0 : World} {d : Nat → Bool} {u : Nat → Value} {w w' : World}

theorem SI.step_val {i : Nat} {v : Value} (hok : okVs vs (pre.map PreRow.st) = true) (h : SI vs pre E w0 d u w) (hb : Below w.heap.size w w') (hi : kindOf vs (pre.map PreRow.st) i = 0) (hR : (E i).R v w')
    (hF : ∀ b, (E i).F v b → (b < w0.heap.size ∧ ∀ r ∈ pre, r.blk ≠ b) ∨ w.heap.size ≤ b ∨ ∃ j, kindOf vs (pre.map PreRow.st) j ≠ 1 ∧ d j = true ∧ (E j).F (u j) b) : SI vs pre E w0 (setB d i) (upd u i v) w' := by
  have hop : ∀ r ∈ vs, r.op ≠ i := fun r hr e => by have := kind_op (ps := pre.map PreRow.st) hr; rw [e, hi] at this; cases this
  have hst : ∀ r ∈ vs, r.st ≠ i := fun r hr e => by have := kind_st hok hr; rw [e, hi] at this; cases this
  have hpst : ∀ r ∈ pre, r.st ≠ i := fun r hr e => by have := kind_pre hok (List.mem_map.2 ⟨r, hr, rfl⟩); rw [e, hi] at this; cases this
  refine ⟨h.below.on hb, fun j hk hd => ?_, fun r hr hd => ?_, fun r hr => ?_, fun r hr s hs hrs hdr hds => ?_, fun j hk hd r hr hdr b hu => ?_, fun j hk hd r hr => ?_, fun r hr hd => ?_⟩
  · by_cases e : j = i
    · subst e; rw [upd_self]; exact hR
    · rw [upd_ne e]; rw [setB_ne e] at hd
      exact (E j).grow _ _ _ hb (h.val j hk hd)
  · rw [setB_ne (hop r hr)] at hd
    obtain ⟨b, h1, h2, h3⟩ := h.var r hr hd
    refine ⟨b, by rw [upd_ne (hop r hr)]; exact h1, h2, ?_⟩
    rw [setB_ne (hst r hr), upd_ne (hst r hr), hb.block b (Array.getElem?_eq_some_iff.1 h3).1]
    exact h3
  · obtain ⟨h1, h3⟩ := h.old r hr
    refine ⟨h1, ?_⟩
    rw [setB_ne (hpst r hr), upd_ne (hpst r hr), hb.block _ (Array.getElem?_eq_some_iff.1 h3).1]
    exact h3
  · rw [upd_ne (hop r hr), upd_ne (hop s hs)]
    rw [setB_ne (hop r hr)] at hdr
    rw [setB_ne (hop s hs)] at hds
    exact h.apart r hr s hs hrs hdr hds
  · rw [setB_ne (hop r hr)] at hdr
    rw [upd_ne (hop r hr)] at hu
    by_cases e : j = i
    · subst e
      rw [upd_self]
      intro hf
      obtain ⟨b', g1, g2, g3⟩ := h.var r hr hdr
      rw [hu] at g1
      obtain rfl : b = b' := by simpa using g1
      have hlt := (Array.getElem?_eq_some_iff.1 g3).1
      rcases hF b hf with h5 | h5 | ⟨k, hk1, hk2, hk3⟩
      · have := h5.1; omega
      · omega
      · exact h.free k hk1 hk2 r hr hdr b hu hk3
    · rw [upd_ne e]; rw [setB_ne e] at hd
      exact h.free j hk hd r hr hdr b hu
  · by_cases e : j = i
    · subst e
      rw [upd_self]
      intro hf
      obtain ⟨g1, g3⟩ := h.old r hr
      have hlt := (Array.getElem?_eq_some_iff.1 g3).1
      rcases hF _ hf with h5 | h5 | ⟨k, hk1, hk2, hk3⟩
      · exact h5.2 r hr rfl
      · omega
      · exact h.freep k hk1 hk2 r hr hk3
    · rw [upd_ne e]; rw [setB_ne e] at hd
      exact h.freep j hk hd r hr
  · rw [setB_ne (hst r hr)] at hd
    rw [setB_ne (hop r hr)]
    exact h.made r hr hd

theorem SI.step_var {r : VarRow} (hok : okVs vs (pre.map PreRow.st) = true) (h : SI vs pre E w0 d u w) (hr : r ∈ vs) (hd0 : d r.op = false) :
    SI vs pre E w0 (setB d r.op) (upd u r.op (.pointer (some ⟨w.heap.size, 0, none⟩))) (w.alloc (.cells r.zs r.ty)) := by
  have hb : Below w.heap.size w (w.alloc (.cells r.zs r.ty)) := (Below.refl w.heap.size w).alloc (Nat.le_refl _) _
  have hk1 := kind_op (ps := pre.map PreRow.st) hr
  have hne : ∀ j, kindOf vs (pre.map PreRow.st) j ≠ 1 → j ≠ r.op := fun j hj e => hj (by rw [e]; exact hk1)
  have hst : ∀ s ∈ vs, s.st ≠ r.op := fun s hs e => okVs_op hok r hr s hs e.symm
  have hpst : ∀ s ∈ pre, s.st ≠ r.op := fun s hs e => okVs_opp hok r hr _ (List.mem_map.2 ⟨s, hs, rfl⟩) e.symm
  have hnew : ∀ s ∈ vs, d s.op = true → u s.op ≠ .pointer (some ⟨w.heap.size, 0, none⟩) := fun s hs hd e => by
    obtain ⟨b, h1, h2, h3⟩ := h.var s hs hd
    rw [h1] at e
    simp at e
    have := (Array.getElem?_eq_some_iff.1 h3).1
    omega
  refine ⟨h.below.on hb, fun j hk hd => ?_, fun s hs hd => ?_, fun s hs => ?_, fun s hs t ht hst2 hds hdt => ?_, fun j hk hd s hs hds b hu => ?_, fun j hk hd s hs => ?_, fun s hs hd => ?_⟩
  · have e := hne j hk
    rw [upd_ne e]; rw [setB_ne e] at hd
    exact (E j).grow _ _ _ hb (h.val j hk hd)
  · by_cases e : s.op = r.op
    · obtain rfl := okVs_op_inj hok s hs r hr e
      have h0 : d s.st = false := by
        cases hq : d s.st with
        | false => rfl
        | true => rw [h.made s hs hq] at hd0; cases hd0
      refine ⟨w.heap.size, by rw [upd_self], h.below.size, ?_⟩
      rw [setB_ne (hst s hs), h0]
      exact (MapKept.heap_alloc w _).1
    · rw [setB_ne e] at hd
      obtain ⟨b, h1, h2, h3⟩ := h.var s hs hd
      refine ⟨b, by rw [upd_ne e]; exact h1, h2, ?_⟩
      rw [setB_ne (hst s hs), upd_ne (hst s hs), hb.block b (Array.getElem?_eq_some_iff.1 h3).1]
      exact h3
  · obtain ⟨h1, h3⟩ := h.old s hs
    refine ⟨h1, ?_⟩
    rw [setB_ne (hpst s hs), upd_ne (hpst s hs), hb.block _ (Array.getElem?_eq_some_iff.1 h3).1]
    exact h3
  · by_cases es : s.op = r.op
    · have et : t.op ≠ r.op := fun e => hst2 (es.trans e.symm)
      rw [es, upd_self, upd_ne et]
      rw [setB_ne et] at hdt
      exact fun e => hnew t ht hdt e.symm
    · rw [setB_ne es] at hds
      rw [upd_ne es]
      by_cases et : t.op = r.op
      · rw [et, upd_self]; exact hnew s hs hds
      · rw [setB_ne et] at hdt
        rw [upd_ne et]
        exact h.apart s hs t ht hst2 hds hdt
  · have e := hne j hk
    rw [upd_ne e]
    rw [setB_ne e] at hd
    by_cases es : s.op = r.op
    · rw [es, upd_self] at hu
      obtain rfl : w.heap.size = b := by simpa using hu
      intro hf
      have := (E j).lt _ _ _ (h.val j hk hd) hf
      omega
    · rw [upd_ne es] at hu
      rw [setB_ne es] at hds
      exact h.free j hk hd s hs hds b hu
  · have e := hne j hk
    rw [upd_ne e]
    rw [setB_ne e] at hd
    exact h.freep j hk hd s hs
  · rw [setB_ne (hst s hs)] at hd
    by_cases es : s.op = r.op
    · rw [es, setB_self]
    · rw [setB_ne es]; exact h.made s hs hd

theorem SI.step_sto {r : VarRow} {b : Nat} {x : Value} (hok : okVs vs (pre.map PreRow.st) = true) (h : SI vs pre E w0 d u w) (hr : r ∈ vs) (hd0 : d r.op = true)
    (hu : u r.op = .pointer (some ⟨b, 0, none⟩)) (hs : Stored w w' b x.cells r.ty) (hR : (E r.st).R x w')
    (hF : ∀ b, (E r.st).F x b → (b < w0.heap.size ∧ ∀ r ∈ pre, r.blk ≠ b) ∨ ∃ j, kindOf vs (pre.map PreRow.st) j ≠ 1 ∧ d j = true ∧ (E j).F (u j) b) : SI vs pre E w0 (setB d r.st) (upd u r.st x) w' := by
  obtain ⟨b', g1, g2, g3⟩ := h.var r hr hd0
  rw [hu] at g1
  obtain rfl : b = b' := by simpa using g1
  have hop : ∀ s ∈ vs, s.op ≠ r.st := fun s hs e => okVs_op hok s hs r hr e
  have hpst : ∀ s ∈ pre, s.st ≠ r.st := fun s hs e => okVs_stp hok r hr _ (List.mem_map.2 ⟨s, hs, rfl⟩) e.symm
  refine ⟨⟨by rw [hs.os]; exact h.below.os, by rw [hs.tape]; exact h.below.tape, by rw [hs.output]; exact h.below.output, by rw [hs.size]; exact h.below.size, fun k hkb hkp => ?_⟩, fun j hk hd => ?_, fun s hsv hd => ?_, fun s hsv => ?_, fun s hsv t ht hst2 hds hdt => ?_, fun j hk hd s hsv hds c hc => ?_, fun j hk hd s hsv => ?_, fun s hsv hd => ?_⟩
  · rw [hs.other k (by omega)]; exact h.below.block k hkb hkp
  · by_cases e : j = r.st
    · subst e; rw [upd_self]; exact hR
    · rw [upd_ne e]; rw [setB_ne e] at hd
      exact (E j).kept _ _ _ _ _ _ hs (h.free j hk hd r hr hd0 b hu) (h.val j hk hd)
  · rw [setB_ne (hop s hsv)] at hd
    obtain ⟨c, k1, k2, k3⟩ := h.var s hsv hd
    refine ⟨c, by rw [upd_ne (hop s hsv)]; exact k1, k2, ?_⟩
    by_cases e : s.st = r.st
    · obtain rfl := okVs_st_inj hok s hsv r hr e
      rw [hu] at k1
      obtain rfl : b = c := by simpa using k1
      rw [setB_self, upd_self]
      simp only [if_true]
      exact hs.here
    · have hcb : c ≠ b := fun e' => by
        subst e'
        have hop2 : s.op ≠ r.op := fun e'' => e (by rw [okVs_op_inj hok s hsv r hr e''])
        exact h.apart s hsv r hr hop2 hd hd0 (k1.trans hu.symm)
      rw [setB_ne e, upd_ne e, hs.other c hcb]
      exact k3
  · obtain ⟨k1, k3⟩ := h.old s hsv
    refine ⟨k1, ?_⟩
    rw [setB_ne (hpst s hsv), upd_ne (hpst s hsv), hs.other _ (by omega)]
    exact k3
  · rw [upd_ne (hop s hsv), upd_ne (hop t ht)]
    rw [setB_ne (hop s hsv)] at hds
    rw [setB_ne (hop t ht)] at hdt
    exact h.apart s hsv t ht hst2 hds hdt
  · rw [setB_ne (hop s hsv)] at hds
    rw [upd_ne (hop s hsv)] at hc
    by_cases e : j = r.st
    · subst e
      rw [upd_self]
      intro hf
      obtain ⟨c', k1, k2, k3⟩ := h.var s hsv hds
      rw [hc] at k1
      obtain rfl : c = c' := by simpa using k1
      rcases hF c hf with h5 | ⟨k, h6, h7, h8⟩
      · have := h5.1; omega
      · exact h.free k h6 h7 s hsv hds c hc h8
    · rw [upd_ne e]; rw [setB_ne e] at hd
      exact h.free j hk hd s hsv hds c hc
  · by_cases e : j = r.st
    · subst e
      rw [upd_self]
      intro hf
      rcases hF _ hf with h5 | ⟨k, h6, h7, h8⟩
      · exact h5.2 s hsv rfl
      · exact h.freep k h6 h7 s hsv h8
    · rw [upd_ne e]; rw [setB_ne e] at hd
      exact h.freep j hk hd s hsv
  · rw [setB_ne (hop s hsv)]
    by_cases e : s.st = r.st
    · obtain rfl := okVs_st_inj hok s hsv r hr e
      exact hd0
    · rw [setB_ne e] at hd
      exact h.made s hsv hd

theorem SI.step_pre {r : PreRow} {x : Value} (hok : okVs vs (pre.map PreRow.st) = true) (hpb : ∀ r ∈ pre, ∀ s ∈ pre, r.st ≠ s.st → r.blk ≠ s.blk) (h : SI vs pre E w0 d u w) (hr : r ∈ pre)
    (hs : Stored w w' r.blk x.cells r.ty) (hR : (E r.st).R x w')
    (hF : ∀ b, (E r.st).F x b → (b < w0.heap.size ∧ ∀ r ∈ pre, r.blk ≠ b) ∨ ∃ j, kindOf vs (pre.map PreRow.st) j ≠ 1 ∧ d j = true ∧ (E j).F (u j) b) : SI vs pre E w0 (setB d r.st) (upd u r.st x) w' := by
  obtain ⟨g1, g3⟩ := h.old r hr
  have hop : ∀ s ∈ vs, s.op ≠ r.st := fun s hs => okVs_opp hok s hs _ (List.mem_map.2 ⟨r, hr, rfl⟩)
  have hst : ∀ s ∈ vs, s.st ≠ r.st := fun s hs => okVs_stp hok s hs _ (List.mem_map.2 ⟨r, hr, rfl⟩)
  refine ⟨⟨by rw [hs.os]; exact h.below.os, by rw [hs.tape]; exact h.below.tape, by rw [hs.output]; exact h.below.output, by rw [hs.size]; exact h.below.size, fun k hkb hkp => ?_⟩, fun j hk hd => ?_, fun s hsv hd => ?_, fun s hsv => ?_, fun s hsv t ht hst2 hds hdt => ?_, fun j hk hd s hsv hds c hc => ?_, fun j hk hd s hsv => ?_, fun s hsv hd => ?_⟩
  · rw [hs.other k (fun e => hkp r hr e.symm)]; exact h.below.block k hkb hkp
  · by_cases e : j = r.st
    · subst e; rw [upd_self]; exact hR
    · rw [upd_ne e]; rw [setB_ne e] at hd
      exact (E j).kept _ _ _ _ _ _ hs (h.freep j hk hd r hr) (h.val j hk hd)
  · rw [setB_ne (hop s hsv)] at hd
    obtain ⟨c, k1, k2, k3⟩ := h.var s hsv hd
    refine ⟨c, by rw [upd_ne (hop s hsv)]; exact k1, k2, ?_⟩
    rw [setB_ne (hst s hsv), upd_ne (hst s hsv), hs.other c (by omega)]
    exact k3
  · obtain ⟨k1, k3⟩ := h.old s hsv
    refine ⟨k1, ?_⟩
    by_cases e : s.st = r.st
    · have : s = r := nodup_same (okVs_pre hok) s hsv r hr e
      subst this
      rw [setB_self, upd_self]
      simp only [if_true]
      exact hs.here
    · rw [setB_ne e, upd_ne e, hs.other _ (hpb s hsv r hr e)]
      exact k3
  · rw [upd_ne (hop s hsv), upd_ne (hop t ht)]
    rw [setB_ne (hop s hsv)] at hds
    rw [setB_ne (hop t ht)] at hdt
    exact h.apart s hsv t ht hst2 hds hdt
  · rw [setB_ne (hop s hsv)] at hds
    rw [upd_ne (hop s hsv)] at hc
    by_cases e : j = r.st
    · subst e
      rw [upd_self]
      intro hf
      obtain ⟨c', k1, k2, k3⟩ := h.var s hsv hds
      rw [hc] at k1
      obtain rfl : c = c' := by simpa using k1
      rcases hF c hf with h5 | ⟨k, h6, h7, h8⟩
      · have := h5.1; omega
      · exact h.free k h6 h7 s hsv hds c hc h8
    · rw [upd_ne e]; rw [setB_ne e] at hd
      exact h.free j hk hd s hsv hds c hc
  · by_cases e : j = r.st
    · subst e
      rw [upd_self]
      intro hf
      rcases hF _ hf with h5 | ⟨k, h6, h7, h8⟩
      · exact h5.2 s hsv rfl
      · exact h.freep k h6 h7 s hsv h8
    · rw [upd_ne e]; rw [setB_ne e] at hd
      exact h.freep j hk hd s hsv
  · rw [setB_ne (hop s hsv)]
    rw [setB_ne (hst s hsv)] at hd
    exact h.made s hsv hd
end

/-- what is known where an operation begins -/
def depsE (md : Region.Mode) (vs : List VarRow) (ps : List Nat) (E : Nat → Prp) (w0 : World) (u : Nat → Value) (w : World) : List Edge → Prop
  | [] => True
  | e :: l => (Region.binds md e = true → if kindOf vs ps e.on = 1 then ∃ b : Nat, u e.on = .pointer (some ⟨b, 0, none⟩) ∧ w0.heap.size ≤ b ∧ b < w.heap.size else (E e.on).R (u e.on) w) ∧ depsE md vs ps E w0 u w l
def updE (E : Nat → Prp) (k : Nat) (p : Prp) : Nat → Prp := fun j => if j = k then p else E j

/-- one operation waits for another -/
def waitsB (md : Region.Mode) (o : Oper) (j : Nat) : Bool := o.after.toList.any fun e => decide (e.on = j) && Region.binds md e
/-- the blocks of a new value: old ones, new ones, or those of a value that it waits for -/
def fromB (md : Region.Mode) (vs : List VarRow) (ps : List Nat) (E : Nat → Prp) (u : Nat → Value) (o : Oper) (b : Nat) : Prop := ∃ j, kindOf vs ps j ≠ 1 ∧ waitsB md o j = true ∧ (E j).F (u j) b

/-- the walk -/
def seqWalk (P : Program) (md : Region.Mode) (ops : Array Oper) (w0 : World) (vs : List VarRow) (pre : List PreRow) (fr : (Nat → Value) → Act) (fin : (Nat → Prp) → Prop) : List Oper → Nat → (Nat → Prp) → Prop
  | [], _, E => fin E
  | o :: l, k, E => ∃ p : Prp, (∀ (u : Nat → Value) (w : World), Kept pre w0 w → depsE md vs (pre.map PreRow.st) E w0 u w o.after.toList →
      match kindOf vs (pre.map PreRow.st) k with
      | 0 => if Region.wanted o (yielded ops (fr u).tmps) = true then relOp P o (fr u) w (fun v w' => Below w.heap.size w w' ∧ p.R v w' ∧ ∀ b, p.F v b → (b < w0.heap.size ∧ ∀ r ∈ pre, r.blk ≠ b) ∨ w.heap.size ≤ b ∨ fromB md vs (pre.map PreRow.st) E u o b) else p.R undef w ∧ ∀ b, ¬ p.F undef b
      | 1 => Region.wanted o (yielded ops (fr u).tmps) = true ∧ ∃ r ∈ vs, r.op = k ∧ relOp P o (fr u) w (fun v w' => v = .pointer (some ⟨w.heap.size, 0, none⟩) ∧ w' = w.alloc (.cells r.zs r.ty))
      | _ => o.dst = none ∧ Region.wanted o (yielded ops (fr u).tmps) = true ∧ ((∃ r ∈ vs, r.st = k ∧ waitsB md o r.op = true ∧ ∀ b : Nat, u r.op = .pointer (some ⟨b, 0, none⟩) → w0.heap.size ≤ b → w.heap[b]? = some (.cells r.zs r.ty) →
          relOp P o (fr u) w (fun _ w' => ∃ x : Value, Stored w w' b x.cells r.ty ∧ p.R x w' ∧ ∀ b, p.F x b → (b < w0.heap.size ∧ ∀ r ∈ pre, r.blk ≠ b) ∨ fromB md vs (pre.map PreRow.st) E u o b)) ∨
        (∃ r ∈ pre, r.st = k ∧ (w.heap[r.blk]? = some (.cells r.zs r.ty) →
          relOp P o (fr u) w (fun _ w' => ∃ x : Value, Stored w w' r.blk x.cells r.ty ∧ p.R x w' ∧ ∀ b, p.F x b → (b < w0.heap.size ∧ ∀ r ∈ pre, r.blk ≠ b) ∨ fromB md vs (pre.map PreRow.st) E u o b))))) ∧
    seqWalk P md ops w0 vs pre fr fin l (k + 1) (updE E k p)

/-- the same, all properties given -/
def seqAll (P : Program) (md : Region.Mode) (ops : Array Oper) (w0 : World) (vs : List VarRow) (pre : List PreRow) (fr : (Nat → Value) → Act) (E : Nat → Prp) : List Oper → Nat → Prop
  | [], _ => True
  | o :: l, k => (∀ (u : Nat → Value) (w : World), Kept pre w0 w → depsE md vs (pre.map PreRow.st) E w0 u w o.after.toList →
      match kindOf vs (pre.map PreRow.st) k with
      | 0 => if Region.wanted o (yielded ops (fr u).tmps) = true then relOp P o (fr u) w (fun v w' => Below w.heap.size w w' ∧ (E k).R v w' ∧ ∀ b, (E k).F v b → (b < w0.heap.size ∧ ∀ r ∈ pre, r.blk ≠ b) ∨ w.heap.size ≤ b ∨ fromB md vs (pre.map PreRow.st) E u o b) else (E k).R undef w ∧ ∀ b, ¬ (E k).F undef b
      | 1 => Region.wanted o (yielded ops (fr u).tmps) = true ∧ ∃ r ∈ vs, r.op = k ∧ relOp P o (fr u) w (fun v w' => v = .pointer (some ⟨w.heap.size, 0, none⟩) ∧ w' = w.alloc (.cells r.zs r.ty))
      | _ => o.dst = none ∧ Region.wanted o (yielded ops (fr u).tmps) = true ∧ ((∃ r ∈ vs, r.st = k ∧ waitsB md o r.op = true ∧ ∀ b : Nat, u r.op = .pointer (some ⟨b, 0, none⟩) → w0.heap.size ≤ b → w.heap[b]? = some (.cells r.zs r.ty) →
          relOp P o (fr u) w (fun _ w' => ∃ x : Value, Stored w w' b x.cells r.ty ∧ (E k).R x w' ∧ ∀ b, (E k).F x b → (b < w0.heap.size ∧ ∀ r ∈ pre, r.blk ≠ b) ∨ fromB md vs (pre.map PreRow.st) E u o b)) ∨
        (∃ r ∈ pre, r.st = k ∧ (w.heap[r.blk]? = some (.cells r.zs r.ty) →
          relOp P o (fr u) w (fun _ w' => ∃ x : Value, Stored w w' r.blk x.cells r.ty ∧ (E k).R x w' ∧ ∀ b, (E k).F x b → (b < w0.heap.size ∧ ∀ r ∈ pre, r.blk ≠ b) ∨ fromB md vs (pre.map PreRow.st) E u o b))))) ∧
    seqAll P md ops w0 vs pre fr E l (k + 1)

theorem relOp_mono {o : Oper} {a : Act} {w : World} {R R' : Value → World → Prop} (h : relOp P o a w R) (hR : ∀ v w', R v w' → R' v w') : relOp P o a w R' := by
  unfold relOp at *
  generalize (execOp a.eval o).run P w = r at *
  cases r with
  | ok n w' =>
    cases n with
    | value u => exact hR _ _ h
    | skip => exact hR _ _ h
    | enter f args => exact Calls.mono h fun e w'' ⟨u, he, hr⟩ => ⟨u, he, hR _ _ hr⟩
    | _ => exact h.elim
  | halt x w' => exact h.elim

/-- what an operation waits for stands before it -/
def backL (md : Region.Mode) : List Oper → Nat → Bool
  | [], _ => true
  | o :: l, k => (o.after.toList.all fun e => !Region.binds md e || decide (e.on < k)) && backL md l (k + 1)

theorem depsE_congr {vs : List VarRow} {ps : List Nat} {E E' : Nat → Prp} {w0 : World} {u : Nat → Value} {w : World} {k : Nat} : ∀ l : List Edge, (l.all fun e => !Region.binds md e || decide (e.on < k)) = true → (∀ j, j < k → E j = E' j) → depsE md vs ps E w0 u w l → depsE md vs ps E' w0 u w l
  | [], _, _, _ => trivial
  | e :: l, hb, he, h => by
    simp only [List.all_cons, Bool.and_eq_true] at hb
    refine ⟨fun hbd => ?_, depsE_congr l hb.2 he h.2⟩
    have h1 := h.1 hbd
    have h2 : e.on < k := by simpa [hbd] using hb.1
    rw [← he _ h2]
    exact h1
theorem fromB_congr {vs : List VarRow} {ps : List Nat} {E E' : Nat → Prp} {u : Nat → Value} {o : Oper} {b k : Nat} (hb : (o.after.toList.all fun e => !Region.binds md e || decide (e.on < k)) = true) (he : ∀ j, j < k → E j = E' j) (h : fromB md vs ps E u o b) : fromB md vs ps E' u o b := by
  obtain ⟨j, h1, h2, h3⟩ := h
  refine ⟨j, h1, h2, ?_⟩
  obtain ⟨e, hm, h4⟩ := List.any_eq_true.1 h2
  simp only [Bool.and_eq_true, decide_eq_true_eq] at h4
  have h5 := List.all_eq_true.1 hb e hm
  rw [h4.2] at h5
  have h6 : e.on < k := by simpa using h5
  rw [← he j (by omega)]
  exact h3

theorem seqAll_of {ops : Array Oper} {w0 : World} {vs : List VarRow} {pre : List PreRow} {fr : (Nat → Value) → Act} {fin : (Nat → Prp) → Prop} : ∀ (l : List Oper) (k : Nat) (E : Nat → Prp), backL md l k = true → seqWalk P md ops w0 vs pre fr fin l k E →
    ∃ E', (∀ j, j < k → E j = E' j) ∧ seqAll P md ops w0 vs pre fr E' l k ∧ fin E'
  | [], _, E, _, h => ⟨E, fun _ _ => rfl, trivial, h⟩
  | o :: l, k, E, hb, h => by
    obtain ⟨p, h1, h2⟩ := h
    simp only [backL, Bool.and_eq_true] at hb
    obtain ⟨E', he, ha, hf⟩ := seqAll_of l (k + 1) _ hb.2 h2
    have hE : ∀ j, j < k → E j = E' j := fun j hj => by rw [← he j (by omega)]; unfold updE; rw [if_neg (by omega)]
    have hp : E' k = p := by rw [← he k (by omega)]; unfold updE; rw [if_pos rfl]
    refine ⟨E', hE, ⟨fun u w hbl hd => ?_, ha⟩, hf⟩
    have h3 := h1 u w hbl (depsE_congr _ hb.1 (fun j hj => (hE j hj).symm) hd)
    rw [hp]
    split at h3
    · split at h3
      · rename_i hw
        rw [if_pos hw]
        exact relOp_mono h3 fun v w' ⟨g1, g2, g3⟩ => ⟨g1, g2, fun b hb' => (g3 b hb').imp id fun h => h.imp id (fromB_congr hb.1 hE)⟩
      · rename_i hw
        rw [if_neg hw]
        exact h3
    · exact h3
    · obtain ⟨hdst, hw, h4⟩ := h3
      refine ⟨hdst, hw, ?_⟩
      rcases h4 with ⟨r, hr, g1, g2, g4⟩ | ⟨r, hr, g1, g4⟩
      · exact .inl ⟨r, hr, g1, g2, fun b q1 q2 q3 => relOp_mono (g4 b q1 q2 q3) fun v w' ⟨x, k1, k2, k3⟩ => ⟨x, k1, k2, fun b hb' => (k3 b hb').imp id (fromB_congr hb.1 hE)⟩⟩
      · exact .inr ⟨r, hr, g1, fun q3 => relOp_mono (g4 q3) fun v w' ⟨x, k1, k2, k3⟩ => ⟨x, k1, k2, fun b hb' => (k3 b hb').imp id (fromB_congr hb.1 hE)⟩⟩

theorem depsE_of {vs : List VarRow} {pre : List PreRow} {E : Nat → Prp} {w0 : World} {d : Nat → Bool} {u : Nat → Value} {w : World} (h : SI vs pre E w0 d u w) : ∀ l : List Edge, (∀ e ∈ l, Region.binds md e = true → d e.on = true) → depsE md vs (pre.map PreRow.st) E w0 u w l
  | [], _ => trivial
  | e :: l, hl => ⟨fun hb => by
      have hde := hl e (by simp) hb
      split
      · rename_i hk
        obtain ⟨r, hr, e1⟩ := kind_one hk
        rw [← e1] at hde ⊢
        obtain ⟨b, h1, h2, h3⟩ := h.var r hr hde
        exact ⟨b, h1, h2, (Array.getElem?_eq_some_iff.1 h3).1⟩
      · rename_i hk
        exact h.val _ hk hde, depsE_of h l (fun e he => hl e (by simp [he]))⟩

theorem seqAll_at {ops : Array Oper} {w0 : World} {vs : List VarRow} {pre : List PreRow} {fr : (Nat → Value) → Act} {E : Nat → Prp} (hok : okVs vs (pre.map PreRow.st) = true) (hpb : ∀ r ∈ pre, ∀ s ∈ pre, r.st ≠ s.st → r.blk ≠ s.blk) : ∀ (l : List Oper) (k i : Nat) (o : Oper), seqAll P md ops w0 vs pre fr E l k → l[i]? = some o →
    ∀ (d : Nat → Bool) (u : Nat → Value) (w : World), d (k + i) = false → (∀ e ∈ o.after.toList, Region.binds md e = true → d e.on = true) → SI vs pre E w0 d u w →
      if Region.wanted o (yielded ops (fr u).tmps) = true then relOp P o (fr u) w (fun v w' => ∃ v', (o.dst = none ∨ v' = v) ∧ SI vs pre E w0 (setB d (k + i)) (upd u (k + i) v') w') else SI vs pre E w0 (setB d (k + i)) (upd u (k + i) undef) w
  | [], _, _, _, _, h => by simp at h
  | o' :: l, k, i + 1, o, hr, h => by
    have := seqAll_at hok hpb l (k + 1) i o hr.2 (by simpa using h)
    rw [show k + 1 + i = k + (i + 1) by omega] at this
    exact this
  | o' :: l, k, 0, o, hr, h => by
    obtain rfl : o' = o := by simpa using h
    intro d u w hk hd hI
    simp only [Nat.add_zero] at hk ⊢
    have hwt : ∀ j, waitsB md o' j = true → d j = true := fun j hj => by
      obtain ⟨e, hm, h4⟩ := List.any_eq_true.1 hj
      simp only [Bool.and_eq_true, decide_eq_true_eq] at h4
      rw [← h4.1]
      exact hd e hm h4.2
    have h3 := hr.1 u w hI.below (depsE_of hI _ hd)
    split at h3
    · rename_i hk0
      split at h3
      · rename_i hw
        rw [if_pos hw]
        exact relOp_mono h3 fun v w' ⟨g1, g2, g3⟩ => ⟨v, .inr rfl, hI.step_val hok g1 hk0 g2 fun b hb => (g3 b hb).imp id fun h => h.imp id fun ⟨j, j1, j2, j3⟩ => ⟨j, j1, hwt j j2, j3⟩⟩
      · rename_i hw
        rw [if_neg hw]
        exact hI.step_val hok (Below.refl _ _) hk0 h3.1 fun b hb => absurd hb (h3.2 b)
    · obtain ⟨hw, r, hr1, rfl, hg⟩ := h3
      rw [if_pos hw]
      exact relOp_mono hg fun v w' ⟨h1, h2⟩ => by subst h1 h2; exact ⟨_, .inr rfl, hI.step_var hok hr1 hk⟩
    · obtain ⟨hdst, hw, h4⟩ := h3
      rw [if_pos hw]
      rcases h4 with ⟨r, hr1, rfl, g2, g4⟩ | ⟨r, hr1, rfl, g4⟩
      · obtain ⟨b, q1, q2, q3⟩ := hI.var r hr1 (hwt _ g2)
        rw [hk] at q3
        simp only [Bool.false_eq_true, if_false] at q3
        exact relOp_mono (g4 b q1 q2 q3) fun v w' ⟨x, k1, k2, k3⟩ => ⟨x, .inl hdst, hI.step_sto hok hr1 (hwt _ g2) q1 k1 k2 fun b hb => (k3 b hb).imp id fun ⟨j, j1, j2, j3⟩ => ⟨j, j1, hwt j j2, j3⟩⟩
      · obtain ⟨q1, q3⟩ := hI.old r hr1
        rw [hk] at q3
        simp only [Bool.false_eq_true, if_false] at q3
        exact relOp_mono (g4 q3) fun v w' ⟨x, k1, k2, k3⟩ => ⟨x, .inl hdst, hI.step_pre hok hpb hr1 k1 k2 fun b hb => (k3 b hb).imp id fun ⟨j, j1, j2, j3⟩ => ⟨j, j1, hwt j j2, j3⟩⟩

theorem wpAny_seq {l : List Oper} {n : Nat} {a0 : Act} {w0 : World} {vs : List VarRow} {pre : List PreRow} {E : Nat → Prp} {Q : Exit → Act → World → Prop} (hok : okVs vs (pre.map PreRow.st) = true) (hpb : ∀ r ∈ pre, ∀ s ∈ pre, r.st ≠ s.st → r.blk ≠ s.blk) (hB : relB md l n = true)
    (hall : seqAll P md l.toArray w0 vs pre (fun u => fillL a0 (l.take n) u 0) E (l.take n) 0)
    (hend : ∀ (d : Nat → Bool) (u : Nat → Value) (w : World), (∀ j, j < n → d j = true) → SI vs pre E w0 d u w → wpList P l.toArray Q (l.drop n) (fillL a0 (l.take n) u 0) w) :
    ∀ (f : Nat) (listed : Array Bool) (u : Nat → Value) (w : World), unlisted n listed = f → HeadInv md l.toArray n listed → SI vs pre E w0 (fun j => listed.getD j false) u w →
      wpAny P md l.toArray Q (f + (l.length - n)) listed (fillL a0 (l.take n) u 0) w := by
  simp only [relB, Bool.and_eq_true, Bool.or_eq_true, decide_eq_true_eq] at hB
  obtain ⟨⟨⟨hn, hback⟩, hseq⟩, hd⟩ := hB
  have hnl : n ≤ l.length := by omega
  intro f
  induction f with
  | zero =>
    intro listed u w hf inv hV
    have hdone : ∀ j, j < n → listed.getD j false = true := by
      intro j hj
      have h0 : (List.range n).countP (fun j => !listed.getD j false) = 0 := hf
      rw [List.countP_eq_zero] at h0
      simpa using h0 j (List.mem_range.2 hj)
    have hlist : listed = headsDone n l.length := by
      apply Array.ext
      · simp [headsDone, inv.size]; omega
      · intro i h1 h2
        have hsz : listed.size = l.length := by rw [inv.size]; simp
        have h3 : i < (List.replicate n true ++ List.replicate (l.length - n) false).length := by simpa [headsDone] using h2
        show listed[i] = (List.replicate n true ++ List.replicate (l.length - n) false)[i]'h3
        by_cases hi : i < n
        · rw [List.getElem_append_left (by simpa using hi), List.getElem_replicate]
          have := hdone i hi
          simpa [h1] using this
        · rw [List.getElem_append_right (by simpa using hi), List.getElem_replicate]
          have := inv.tail i (by omega) (by simp; omega)
          simpa [h1] using this
    rw [Nat.zero_add]
    have := wpAny_of_seq (P := P) (ops := l.toArray) (md := md) (Q' := Q) (l.drop n) n listed (fillL a0 (l.take n) u 0) w (fun j => by simp [List.getElem?_drop])
      (by rw [List.length_drop, hlist]; exact hseq) (hend _ u w hdone hV)
    rwa [List.length_drop] at this
  | succ f ih =>
    intro listed u w hf inv hV
    have hsz : listed.size = l.length := by rw [inv.size]; simp
    obtain ⟨i0, hi0, hun0⟩ : ∃ i, i < n ∧ listed.getD i false = false := by
      apply Classical.byContradiction
      intro hno
      have : unlisted n listed = 0 := by
        unfold unlisted
        rw [List.countP_eq_zero]
        intro j hj
        have : listed.getD j false = true := by
          cases h : listed.getD j false with
          | true => rfl
          | false => exact absurd ⟨j, List.mem_range.1 hj, h⟩ hno
        rw [this]
        decide
      omega
    rw [show f + 1 + (l.length - n) = (f + (l.length - n)) + 1 by omega]
    refine ⟨fun h => absurd h (some_ready hback (by simpa using hnl) i0 i0 rfl hi0 hun0 (by omega) (fun j hj => by omega)), fun i hi => ?_⟩
    obtain ⟨hiun, o, ho, hdeps⟩ := mem_ready.1 hi
    have hilt : i < l.length := by have := (Array.getElem?_eq_some_iff.1 ho).1; simpa using this
    have hin : i < n := by
      rcases hn with hn | ⟨⟨hn, hs⟩, hc⟩
      · omega
      · exact (Nat.lt_or_ge i n).resolve_right fun h => tail_waits hs hc (by simpa using hn) inv _ i0 rfl hi0 (getD_in (by omega) hun0) i h hi
    have hol : (l.take n)[i]? = some o := by
      rw [List.getElem?_take_of_lt hin]; simpa using ho
    have hstep := seqAll_at hok hpb _ 0 i o hall hol (fun j => listed.getD j false) u w (by rw [Nat.zero_add]; exact getD_both hiun) (fun e he hbd => hdeps e (by simpa using he) hbd) hV
    simp only [Nat.zero_add] at hstep
    have hset : (fun j => (listed.setIfInBounds i true).getD j false) = setB (fun j => listed.getD j false) i := by
      funext j
      unfold setB
      split
      · rename_i e; subst e
        simp [show j < listed.size by omega]
      · rename_i e
        rw [getD_set_ne false (by omega)]
    have hgo : ∀ v w', (∃ v', (o.dst = none ∨ v' = v) ∧ SI vs pre E w0 (setB (fun j => listed.getD j false) i) (upd u i v') w') → wpAny P md l.toArray Q (f + (l.length - n)) (listed.setIfInBounds i true) ((fillL a0 (l.take n) u 0).put o.dst v) w' := by
      rintro v w' ⟨v', hor, hv⟩
      have hput : (fillL a0 (l.take n) u 0).put o.dst v = (fillL a0 (l.take n) u 0).put o.dst v' := by
        rcases hor with h | h
        · rw [h]; rfl
        · rw [h]
      rw [hput, fill_put (l.take n) a0 u 0 i o hd hol, Nat.zero_add]
      refine ih _ _ _ ?_ (inv.set hi hin) (by rw [hset]; exact hv)
      have := unlisted_set hin (by omega : i < listed.size) (getD_both hiun)
      omega
    unfold wpOp
    simp only [ho]
    split
    · rename_i hw
      rw [if_pos hw] at hstep
      exact .inl (relOp_wp hstep fun v w' h1 => hgo v w' h1)
    · rename_i hw
      rw [if_neg hw] at hstep
      exact hgo _ _ ⟨_, .inr rfl, hstep⟩

/-- what is known at the end: of operations 0 to n - 1 -/
def endE (vs : List VarRow) (ps : List Nat) (E : Nat → Prp) (u : Nat → Value) (w : World) : Nat → Prop
  | 0 => True
  | k + 1 => endE vs ps E u w k ∧ if kindOf vs ps k = 1 then (∃ b : Nat, u k = .pointer (some ⟨b, 0, none⟩)) else (E k).R (u k) w
/-- of the variables -/
def endV (w0 : World) (u : Nat → Value) (w : World) (n : Nat) : List VarRow → Prop
  | [] => True
  | r :: vs => (∃ b : Nat, u r.op = .pointer (some ⟨b, 0, none⟩) ∧ w0.heap.size ≤ b ∧ w.heap[b]? = some (.cells (if r.st < n then (u r.st).cells else r.zs) r.ty)) ∧ (vs.foldr (fun s q => u r.op ≠ u s.op ∧ q) True) ∧ endV w0 u w n vs
/-- of the blocks that were there -/
def endP (u : Nat → Value) (w : World) (n : Nat) : List PreRow → Prop
  | [] => True
  | r :: l => w.heap[r.blk]? = some (.cells (if r.st < n then (u r.st).cells else r.zs) r.ty) ∧ endP u w n l

theorem endE_of {vs : List VarRow} {pre : List PreRow} {E : Nat → Prp} {w0 : World} {d : Nat → Bool} {u : Nat → Value} {w : World} (h : SI vs pre E w0 d u w) : ∀ n, (∀ j, j < n → d j = true) → endE vs (pre.map PreRow.st) E u w n
  | 0, _ => trivial
  | n + 1, hd => ⟨endE_of h n (fun j hj => hd j (by omega)), by
      split
      · rename_i hk
        obtain ⟨r, hr, e1⟩ := kind_one hk
        obtain ⟨b, h1, _⟩ := h.var r hr (by rw [e1]; exact hd n (by omega))
        exact ⟨b, by rw [← e1]; exact h1⟩
      · rename_i hk
        exact h.val _ hk (hd n (by omega))⟩
theorem endV_of {vs0 : List VarRow} {pre : List PreRow} {E : Nat → Prp} {w0 : World} {d : Nat → Bool} {u : Nat → Value} {w : World} {n : Nat} (h : SI vs0 pre E w0 d u w) (hd : ∀ j, j < n → d j = true) (hbd : ∀ r ∈ vs0, r.op < n ∧ r.st < n) : ∀ vs : List VarRow, (∀ r ∈ vs, r ∈ vs0) → (vs.map VarRow.op).Nodup → endV w0 u w n vs
  | [], _, _ => trivial
  | r :: vs, hs, hn => by
    simp only [List.map_cons, List.nodup_cons] at hn
    have hr := hs r (by simp)
    refine ⟨?_, ?_, endV_of h hd hbd vs (fun s hs' => hs s (by simp [hs'])) hn.2⟩
    · obtain ⟨b, h1, h2, h3⟩ := h.var r hr (hd _ (hbd r hr).1)
      rw [hd _ (hbd r hr).2] at h3
      exact ⟨b, h1, h2, by rw [if_pos (hbd r hr).2]; simpa using h3⟩
    · have : ∀ l : List VarRow, (∀ s ∈ l, s ∈ vs) → l.foldr (fun s q => u r.op ≠ u s.op ∧ q) True := by
        intro l
        induction l with
        | nil => intro _; trivial
        | cons s l ih =>
          intro hl
          refine ⟨h.apart r hr s (hs s (by simp [hl s (by simp)])) (fun e => hn.1 (List.mem_map.2 ⟨s, hl s (by simp), e.symm⟩)) (hd _ (hbd r hr).1) (hd _ (hbd s (hs s (by simp [hl s (by simp)]))).1), ih (fun s hs' => hl s (by simp [hs']))⟩
      exact this vs (fun s hs' => hs')
theorem endP_of {vs : List VarRow} {pre : List PreRow} {E : Nat → Prp} {w0 : World} {d : Nat → Bool} {u : Nat → Value} {w : World} {n : Nat} (h : SI vs pre E w0 d u w) (hd : ∀ j, j < n → d j = true) (hbd : ∀ r ∈ pre, r.st < n) : ∀ l : List PreRow, (∀ r ∈ l, r ∈ pre) → endP u w n l
  | [], _ => trivial
  | r :: l, hs => by
    refine ⟨?_, endP_of h hd hbd l (fun s hs' => hs s (by simp [hs']))⟩
    have hr := hs r (by simp)
    obtain ⟨_, h3⟩ := h.old r hr
    rw [hd _ (hbd r hr)] at h3
    rw [if_pos (hbd r hr)]
    simpa using h3

def varsIn (vs : List VarRow) (ps : List Nat) (n : Nat) : Bool := (vs.all fun r => decide (r.op < n) && decide (r.st < n)) && ps.all fun p => decide (p < n)

theorem endE_get {vs : List VarRow} {ps : List Nat} {E : Nat → Prp} {u : Nat → Value} {w : World} : ∀ {n : Nat}, endE vs ps E u w n → ∀ i, i < n → kindOf vs ps i ≠ 1 → (E i).R (u i) w
  | 0, _, i, hi, _ => by omega
  | n + 1, h, i, hi, hk => by
    by_cases e : i = n
    · subst e
      have := h.2
      rw [if_neg hk] at this
      exact this
    · exact endE_get h.1 i (by omega) hk

/-- **THE THEOREM** -/
theorem wp_region_seq {id : Nat} {Q : Exit → Act → World → Prop} {a : Act} {w : World} {l : List Oper} (n : Nat) (vs : List VarRow) (pre : List PreRow) (hm : P.follows .mixedOrders = true) (hB : relB .any l n = true) (hL : backL .any (l.take n) 0 = true) (hok : okVs vs (pre.map PreRow.st) = true) (hin : varsIn vs (pre.map PreRow.st) n = true)
    (hpre : ∀ r ∈ pre, r.blk < w.heap.size ∧ w.heap[r.blk]? = some (.cells r.zs r.ty)) (hpb : ∀ r ∈ pre, ∀ s ∈ pre, r.st ≠ s.st → r.blk ≠ s.blk)
    (h : seqWalk P .any l.toArray w vs pre (fun u => fillL a (l.take n) u 0)
      (fun E => ∀ (u : Nat → Value) (w' : World), Kept pre w w' → endE vs (pre.map PreRow.st) E u w' n → endV w u w' n vs → endP u w' n pre → wpList P l.toArray Q (l.drop n) (fillL a (l.take n) u 0) w') (l.take n) 0 (fun _ => Prp.any)) : (Code.region id l.toArray true).wp P Q a w := by
  obtain ⟨E, _, hall, hend⟩ := seqAll_of _ _ _ hL h
  refine wp_region_any hm ?_
  have inv0 : HeadInv .any l.toArray n (Array.replicate l.toArray.size false) :=
    ⟨by simp, fun j oj _ hl => (by rw [getD_replicate_false] at hl; cases hl), fun t _ ht => getD_in (by simpa using ht) (getD_replicate_false _ _)⟩
  have hn : n ≤ l.length := by
    simp only [relB, Bool.and_eq_true, Bool.or_eq_true, decide_eq_true_eq] at hB
    omega
  have h1 : unlisted n (Array.replicate l.toArray.size false) = n := by
    unfold unlisted
    rw [List.countP_eq_length.2]
    · simp
    · intro j _
      rw [getD_replicate_false]
      rfl
  have hd0 : (fun j => (Array.replicate l.toArray.size false).getD j false) = fun _ => false := by
    funext j; exact getD_replicate_false _ _
  have hI : SI vs pre E w (fun j => (Array.replicate l.toArray.size false).getD j false) (fun j => curU a (l.take n) j) { w with drawn := w.drawn + 1 } := by
    rw [hd0]
    exact ⟨⟨rfl, rfl, rfl, Nat.le_refl _, fun _ _ _ => rfl⟩, fun i _ h => (by cases h), fun r _ h => (by cases h), fun r hr => hpre r hr, fun r _ s _ _ h => (by cases h), fun i _ h => (by cases h), fun i _ h => (by cases h), fun r _ h => (by cases h)⟩
  simp only [varsIn, Bool.and_eq_true] at hin
  have hbd : ∀ r ∈ vs, r.op < n ∧ r.st < n := fun r hr => by
    have := List.all_eq_true.1 hin.1 r hr
    simpa using this
  have hbp : ∀ r ∈ pre, r.st < n := fun r hr => by
    have := List.all_eq_true.1 hin.2 r.st (List.mem_map.2 ⟨r, hr, rfl⟩)
    simpa using this
  have := wpAny_seq hok hpb hB hall (fun d u w' hd hI => hend u w' hI.below (endE_of hI n hd) (endV_of hI hd hbd vs (fun r hr => hr) (List.nodup_append.1 (of_decide_eq_true hok)).1) (endP_of hI hd hbp pre (fun r hr => hr))) n _ _ { w with drawn := w.drawn + 1 } h1 inv0 hI
  rw [fill_cur a (l.take n) 0 _ (fun j => by rw [Nat.zero_add]), show n + (l.length - n) = l.toArray.size by simp; omega] at this
  exact this

/- one step of the walk, by what the operation is -/
section
variable {ops : Array Oper} {w0 : World} {vs : List VarRow} {pre : List PreRow} {fr : (Nat → Value) → Act} {fin : (Nat → Prp) → Prop} {o : Oper} {l : List Oper} {k : Nat} {E : Nat → Prp}
/-- one known value -/
theorem seq_is {x : Value} (hk : kindOf vs (pre.map PreRow.st) k = 0)
    (h : ∀ (u : Nat → Value) (w : World), Kept pre w0 w → depsE md vs (pre.map PreRow.st) E w0 u w o.after.toList → if Region.wanted o (yielded ops (fr u).tmps) = true then relOp P o (fr u) w (fun v w' => Below w.heap.size w w' ∧ v = x) else undef = x)
    (hl : seqWalk P md ops w0 vs pre fr fin l (k + 1) (updE E k (Prp.is x))) : seqWalk P md ops w0 vs pre fr fin (o :: l) k E := by
  refine ⟨Prp.is x, fun u w hb hd => ?_, hl⟩
  rw [hk]
  have h1 := h u w hb hd
  show if _ then _ else _
  split at h1
  · rename_i hw
    rw [if_pos hw]
    exact relOp_mono h1 fun v w' ⟨g1, g2⟩ => ⟨g1, g2, fun b hb => hb.elim⟩
  · rename_i hw
    rw [if_neg hw]
    exact ⟨h1, fun b hb => hb⟩
/-- a value with a property -/
theorem seq_new (p : Prp) (hk : kindOf vs (pre.map PreRow.st) k = 0)
    (h : ∀ (u : Nat → Value) (w : World), Kept pre w0 w → depsE md vs (pre.map PreRow.st) E w0 u w o.after.toList → Region.wanted o (yielded ops (fr u).tmps) = true ∧ relOp P o (fr u) w (fun v w' => Below w.heap.size w w' ∧ p.R v w' ∧ ∀ b, p.F v b → (b < w0.heap.size ∧ ∀ r ∈ pre, r.blk ≠ b) ∨ w.heap.size ≤ b ∨ fromB md vs (pre.map PreRow.st) E u o b))
    (hl : seqWalk P md ops w0 vs pre fr fin l (k + 1) (updE E k p)) : seqWalk P md ops w0 vs pre fr fin (o :: l) k E := by
  refine ⟨p, fun u w hb hd => ?_, hl⟩
  rw [hk]
  have h1 := h u w hb hd
  show if _ then _ else _
  rw [if_pos h1.1]
  exact h1.2
/-- a variable is made -/
theorem seq_var (r : VarRow) (hr : r ∈ vs) (ho : r.op = k)
    (h : ∀ (u : Nat → Value) (w : World), Kept pre w0 w → Region.wanted o (yielded ops (fr u).tmps) = true ∧ relOp P o (fr u) w (fun v w' => v = .pointer (some ⟨w.heap.size, 0, none⟩) ∧ w' = w.alloc (.cells r.zs r.ty)))
    (hl : seqWalk P md ops w0 vs pre fr fin l (k + 1) (updE E k Prp.any)) : seqWalk P md ops w0 vs pre fr fin (o :: l) k E := by
  refine ⟨Prp.any, fun u w hb hd => ?_, hl⟩
  have hk : kindOf vs (pre.map PreRow.st) k = 1 := by rw [← ho]; exact kind_op hr
  rw [hk]
  have h1 := h u w hb
  exact ⟨h1.1, r, hr, ho, h1.2⟩
/-- a known value is stored into it -/
theorem seq_sto_agg {cs : Array Value} (r : VarRow) (hr : r ∈ vs) (ho : r.st = k) (hk : kindOf vs (pre.map PreRow.st) k = 2) (hdst : o.dst = none) (hw : waitsB md o r.op = true)
    (h : ∀ (u : Nat → Value) (w : World), Kept pre w0 w → depsE md vs (pre.map PreRow.st) E w0 u w o.after.toList → Region.wanted o (yielded ops (fr u).tmps) = true ∧ ∀ b : Nat, u r.op = .pointer (some ⟨b, 0, none⟩) → w0.heap.size ≤ b → w.heap[b]? = some (.cells r.zs r.ty) → relOp P o (fr u) w (fun _ w' => Stored w w' b cs r.ty))
    (hl : seqWalk P md ops w0 vs pre fr fin l (k + 1) (updE E k (Prp.is (.agg cs)))) : seqWalk P md ops w0 vs pre fr fin (o :: l) k E := by
  refine ⟨Prp.is (.agg cs), fun u w hb hd => ?_, hl⟩
  rw [hk]
  have h1 := h u w hb hd
  exact ⟨hdst, h1.1, .inl ⟨r, hr, ho, hw, fun b q1 q2 q3 => relOp_mono (h1.2 b q1 q2 q3) fun v w' hs => ⟨.agg cs, hs, rfl, fun b hb => hb.elim⟩⟩⟩
/-- cells are stored into a block that was there -/
theorem seq_pre_agg {cs : Array Value} (r : PreRow) (hr : r ∈ pre) (ho : r.st = k) (hk : kindOf vs (pre.map PreRow.st) k = 2) (hdst : o.dst = none)
    (h : ∀ (u : Nat → Value) (w : World), Kept pre w0 w → depsE md vs (pre.map PreRow.st) E w0 u w o.after.toList → Region.wanted o (yielded ops (fr u).tmps) = true ∧ (w.heap[r.blk]? = some (.cells r.zs r.ty) → relOp P o (fr u) w (fun _ w' => Stored w w' r.blk cs r.ty)))
    (hl : seqWalk P md ops w0 vs pre fr fin l (k + 1) (updE E k (Prp.is (.agg cs)))) : seqWalk P md ops w0 vs pre fr fin (o :: l) k E := by
  refine ⟨Prp.is (.agg cs), fun u w hb hd => ?_, hl⟩
  rw [hk]
  have h1 := h u w hb hd
  exact ⟨hdst, h1.1, .inr ⟨r, hr, ho, fun q3 => relOp_mono (h1.2 q3) fun v w' hs => ⟨.agg cs, hs, rfl, fun b hb => hb.elim⟩⟩⟩
/-- a value with a property is stored into a variable -/
theorem seq_sto_new (p : Prp) (r : VarRow) (hr : r ∈ vs) (ho : r.st = k) (hk : kindOf vs (pre.map PreRow.st) k = 2) (hdst : o.dst = none) (hw : waitsB md o r.op = true)
    (h : ∀ (u : Nat → Value) (w : World), Kept pre w0 w → depsE md vs (pre.map PreRow.st) E w0 u w o.after.toList → Region.wanted o (yielded ops (fr u).tmps) = true ∧ ∀ b : Nat, u r.op = .pointer (some ⟨b, 0, none⟩) → w0.heap.size ≤ b → w.heap[b]? = some (.cells r.zs r.ty) →
      relOp P o (fr u) w (fun _ w' => ∃ x : Value, Stored w w' b x.cells r.ty ∧ p.R x w' ∧ ∀ b, p.F x b → (b < w0.heap.size ∧ ∀ r ∈ pre, r.blk ≠ b) ∨ fromB md vs (pre.map PreRow.st) E u o b))
    (hl : seqWalk P md ops w0 vs pre fr fin l (k + 1) (updE E k p)) : seqWalk P md ops w0 vs pre fr fin (o :: l) k E := by
  refine ⟨p, fun u w hb hd => ?_, hl⟩
  rw [hk]
  have h1 := h u w hb hd
  exact ⟨hdst, h1.1, .inl ⟨r, hr, ho, hw, h1.2⟩⟩
/-- a value with a property is stored into a block that was there -/
theorem seq_pre_new (p : Prp) (r : PreRow) (hr : r ∈ pre) (ho : r.st = k) (hk : kindOf vs (pre.map PreRow.st) k = 2) (hdst : o.dst = none)
    (h : ∀ (u : Nat → Value) (w : World), Kept pre w0 w → depsE md vs (pre.map PreRow.st) E w0 u w o.after.toList → Region.wanted o (yielded ops (fr u).tmps) = true ∧ (w.heap[r.blk]? = some (.cells r.zs r.ty) →
      relOp P o (fr u) w (fun _ w' => ∃ x : Value, Stored w w' r.blk x.cells r.ty ∧ p.R x w' ∧ ∀ b, p.F x b → (b < w0.heap.size ∧ ∀ r ∈ pre, r.blk ≠ b) ∨ fromB md vs (pre.map PreRow.st) E u o b)))
    (hl : seqWalk P md ops w0 vs pre fr fin l (k + 1) (updE E k p)) : seqWalk P md ops w0 vs pre fr fin (o :: l) k E := by
  refine ⟨p, fun u w hb hd => ?_, hl⟩
  rw [hk]
  have h1 := h u w hb hd
  exact ⟨hdst, h1.1, .inr ⟨r, hr, ho, h1.2⟩⟩
end
end
end Go.Proofs.YtgbhhjdmochhpaaGreatDoor
