/-
  Chapter 29: plates, bars and the catalog as plain data, how they lie in memory, and what the functions answer. Conditions: none. By an AI agent.
-/
import Derived.Test.YtgbhhjdmochhpaaGreatDoorStrs
import Derived.Test.YtgbhhjdmochhpaaGreatDoorAscPlain
import Derived.Test.YtgbhhjdmochhpaaGreatDoorFirst
import Derived.Test.YtgbhhjdmochhpaaGreatDoorCopyK
import Derived.Test.YtgbhhjdmochhpaaGreatDoorInts
import Derived.Test.YtgbhhjdmochhpaaGreatDoorIdA
namespace Go.Proofs.YtgbhhjdmochhpaaGreatDoor
open Go Go.RowKit
set_option linter.unusedVariables false
set_option linter.unusedSimpArgs false

/-- a plate -/
structure Sh where
  id : ByteArray
  grade : ByteArray
  thick : Int
  len : Int
  wid : Int
  heat : ByteArray
/-- a bar -/
structure Br where
  id : ByteArray
  sect : ByteArray
  grade : ByteArray
  len : Int
  heat : ByteArray
def Sh.enc (x : Sh) : List Value := [.string x.id, .string x.grade, .int .i64 x.thick, .int .i64 x.len, .int .i64 x.wid, .string x.heat]
def Br.enc (x : Br) : List Value := [.string x.id, .string x.sect, .string x.grade, .int .i64 x.len, .string x.heat]
def Sh.val (x : Sh) : Value := .agg #[.string x.id, .string x.grade, .int .i64 x.thick, .int .i64 x.len, .int .i64 x.wid, .string x.heat]
def Br.val (x : Br) : Value := .agg #[.string x.id, .string x.sect, .string x.grade, .int .i64 x.len, .string x.heat]
def Sh.none : Sh := ⟨⟨#[]⟩, ⟨#[]⟩, 0, 0, 0, ⟨#[]⟩⟩
def Br.none : Br := ⟨⟨#[]⟩, ⟨#[]⟩, ⟨#[]⟩, 0, ⟨#[]⟩⟩
theorem Sh.enc_len (x : Sh) : x.enc.length = 6 := rfl
theorem Br.enc_len (x : Br) : x.enc.length = 5 := rfl
theorem Sh.enc_one (x : Sh) : ∀ v ∈ x.enc, v.oneCell' = true := by
  intro v hv
  simp only [Sh.enc, List.mem_cons, List.not_mem_nil, or_false] at hv
  rcases hv with rfl | rfl | rfl | rfl | rfl | rfl <;> rfl
theorem Br.enc_one (x : Br) : ∀ v ∈ x.enc, v.oneCell' = true := by
  intro v hv
  simp only [Br.enc, List.mem_cons, List.not_mem_nil, or_false] at hv
  rcases hv with rfl | rfl | rfl | rfl | rfl <;> rfl
/-- plates in memory -/
def ShAt (w : World) (v : Value) (n : Nat) (e : Nat → Sh) : Prop :=
  SliceAt w v n 6 (fun i j => match j with | 0 => .string (e i).id | 1 => .string (e i).grade | 2 => .int .i64 (e i).thick | 3 => .int .i64 (e i).len | 4 => .int .i64 (e i).wid | _ => .string (e i).heat)
def BrAt (w : World) (v : Value) (n : Nat) (e : Nat → Br) : Prop :=
  SliceAt w v n 5 (fun i j => match j with | 0 => .string (e i).id | 1 => .string (e i).sect | 2 => .string (e i).grade | 3 => .int .i64 (e i).len | _ => .string (e i).heat)
theorem ShAt.below {w w' : World} {v : Value} {n : Nat} {e : Nat → Sh} (h : ShAt w v n e) (hb : Below w.heap.size w w') : ShAt w' v n e := SliceAt.below h hb
theorem BrAt.below {w w' : World} {v : Value} {n : Nat} {e : Nat → Br} (h : BrAt w v n e) (hb : Below w.heap.size w w') : BrAt w' v n e := SliceAt.below h hb
theorem ShAt.form {w : World} {v : Value} {n : Nat} {e : Nat → Sh} (h : ShAt w v n e) : ∃ (oa : Option Addr) (cap : Nat), v = .slice oa n cap ∧ n ≤ cap ∧ cap ≤ 9223372036854775807 ∧
    ∀ i, i < n → ∃ b off, oa = some ⟨b, off, none⟩ ∧ b < w.heap.size ∧ ∀ k, k < n → w.cell? ⟨b, off + k * 6, none⟩ = some (.string (e k).id) ∧ w.cell? ⟨b, off + k * 6 + 1, none⟩ = some (.string (e k).grade) ∧ w.cell? ⟨b, off + k * 6 + 2, none⟩ = some (.int .i64 (e k).thick) ∧ w.cell? ⟨b, off + k * 6 + 3, none⟩ = some (.int .i64 (e k).len) ∧ w.cell? ⟨b, off + k * 6 + 4, none⟩ = some (.int .i64 (e k).wid) ∧ w.cell? ⟨b, off + k * 6 + 5, none⟩ = some (.string (e k).heat) := by
  obtain ⟨oa, cap, h1, h2, h3, h4⟩ := h
  refine ⟨oa, cap, h1, h2, h3, fun i hi => ?_⟩
  obtain ⟨b, off, e', hlt, hc⟩ := h4 (by omega)
  exact ⟨b, off, e', hlt, fun k hk => ⟨hc k 0 hk (by decide), hc k 1 hk (by decide), hc k 2 hk (by decide), hc k 3 hk (by decide), hc k 4 hk (by decide), hc k 5 hk (by decide)⟩⟩
theorem BrAt.form {w : World} {v : Value} {n : Nat} {e : Nat → Br} (h : BrAt w v n e) : ∃ (oa : Option Addr) (cap : Nat), v = .slice oa n cap ∧ n ≤ cap ∧ cap ≤ 9223372036854775807 ∧
    ∀ i, i < n → ∃ b off, oa = some ⟨b, off, none⟩ ∧ b < w.heap.size ∧ ∀ k, k < n → w.cell? ⟨b, off + k * 5, none⟩ = some (.string (e k).id) ∧ w.cell? ⟨b, off + k * 5 + 1, none⟩ = some (.string (e k).sect) ∧ w.cell? ⟨b, off + k * 5 + 2, none⟩ = some (.string (e k).grade) ∧ w.cell? ⟨b, off + k * 5 + 3, none⟩ = some (.int .i64 (e k).len) ∧ w.cell? ⟨b, off + k * 5 + 4, none⟩ = some (.string (e k).heat) := by
  obtain ⟨oa, cap, h1, h2, h3, h4⟩ := h
  refine ⟨oa, cap, h1, h2, h3, fun i hi => ?_⟩
  obtain ⟨b, off, e', hlt, hc⟩ := h4 (by omega)
  exact ⟨b, off, e', hlt, fun k hk => ⟨hc k 0 hk (by decide), hc k 1 hk (by decide), hc k 2 hk (by decide), hc k 3 hk (by decide), hc k 4 hk (by decide)⟩⟩
def rowL {α : Type} (e : Nat → α) (n : Nat) : List α := (List.range n).map e
theorem rowL_len {α : Type} (e : Nat → α) (n : Nat) : (rowL e n).length = n := by simp [rowL]
theorem rowL_at {α : Type} (e : Nat → α) {n i : Nat} (h : i < n) : (rowL e n)[i]? = some (e i) := by simp [rowL, h]
theorem rowL_none {α : Type} (e : Nat → α) {n i : Nat} (h : n ≤ i) : (rowL e n)[i]? = none := by simp [rowL, h]
theorem rowL_congr {α : Type} {e e' : Nat → α} {n : Nat} (h : ∀ i, i < n → e i = e' i) : rowL e n = rowL e' n := by
  apply List.ext_getElem?
  intro i
  by_cases hi : i < n
  · rw [rowL_at e hi, rowL_at e' hi, h i hi]
  · rw [rowL_none e (by omega), rowL_none e' (by omega)]
theorem rowL_ins {α : Type} (e : Nat → α) {n i : Nat} (x : α) (h : i ≤ n) : rowL (insF e i x) (n + 1) = (rowL e n).take i ++ ([x] ++ (rowL e n).drop i) := by
  apply List.ext_getElem?
  intro j
  have hl : ((rowL e n).take i).length = i := by rw [List.length_take, rowL_len]; omega
  rcases Nat.lt_trichotomy j i with hj | hj | hj
  · rw [rowL_at _ (by omega), insF_lt e x hj, List.getElem?_append_left (by omega), List.getElem?_take_of_lt hj, rowL_at e (by omega)]
  · subst hj
    rw [rowL_at _ (by omega), insF_eq, List.getElem?_append_right (by omega), hl]
    simp
  · rw [List.getElem?_append_right (by omega), hl, List.getElem?_append_right (by simp; omega), List.getElem?_drop]
    simp only [List.length_cons, List.length_nil]
    by_cases hn : j < n + 1
    · rw [rowL_at _ hn, insF_gt e x hj, rowL_at e (by omega), show i + (j - i - (0 + 1)) = j - 1 by omega]
    · rw [rowL_none _ (by omega), rowL_none e (by omega)]
theorem rowL_del {α : Type} (e : Nat → α) {n i : Nat} (h : i < n) : rowL (delF e i) (n - 1) = (rowL e n).take i ++ (rowL e n).drop (i + 1) := by
  apply List.ext_getElem?
  intro j
  have hl : ((rowL e n).take i).length = i := by rw [List.length_take, rowL_len]; omega
  by_cases hj : j < i
  · rw [rowL_at _ (by omega), List.getElem?_append_left (by omega), List.getElem?_take_of_lt hj, rowL_at e (by omega)]
    simp [delF, hj]
  · rw [List.getElem?_append_right (by omega), hl, List.getElem?_drop]
    by_cases hn : j < n - 1
    · rw [rowL_at _ hn, rowL_at e (by omega), show i + 1 + (j - i) = j + 1 by omega]
      simp [delF, hj]
    · rw [rowL_none _ (by omega), rowL_none e (by omega)]
theorem owns_sh {w : World} {B : Nat} {t : TypeId} {v : Value} {n : Nat} {e : Nat → Sh} (h : w.ownsRow B t 6 v n (flatL Sh.enc (rowL e n))) : ShAt w v n e :=
  owns_slice h _ (by decide) fun i j hi hj => by
    rw [flatL_at Sh.enc_len _ i j (e i) (rowL_at e hi) hj]
    match j, hj with
    | 0, _ => rfl
    | 1, _ => rfl
    | 2, _ => rfl
    | 3, _ => rfl
    | 4, _ => rfl
    | 5, _ => rfl
theorem owns_br {w : World} {B : Nat} {t : TypeId} {v : Value} {n : Nat} {e : Nat → Br} (h : w.ownsRow B t 5 v n (flatL Br.enc (rowL e n))) : BrAt w v n e :=
  owns_slice h _ (by decide) fun i j hi hj => by
    rw [flatL_at Br.enc_len _ i j (e i) (rowL_at e hi) hj]
    match j, hj with
    | 0, _ => rfl
    | 1, _ => rfl
    | 2, _ => rfl
    | 3, _ => rfl
    | 4, _ => rfl
theorem flat_cells_at {α : Type} {enc : α → List Value} {k : Nat} {w : World} {b off n : Nat} {e : Nat → α} (hk : ∀ x, (enc x).length = k) (hp : 0 < k)
    (h : ∀ i j, i < n → j < k → w.cell? ⟨b, off + (i * k + j), none⟩ = (enc (e i))[j]?) : ∀ j u, (flatL enc (rowL e n))[j]? = some u → w.cell? ⟨b, off + j, none⟩ = some u := by
  intro j u hj
  have hl : j < n * k := by
    have := (List.getElem?_eq_some_iff.1 hj).1
    rwa [flatL_len hk, rowL_len] at this
  have hd := Nat.div_add_mod j k
  have hm := Nat.mod_lt j hp
  have hi : j / k < n := Nat.div_lt_of_lt_mul (by rw [Nat.mul_comm]; exact hl)
  have e1 : j / k * k + j % k = j := by rw [Nat.mul_comm]; exact hd
  have h2 := flatL_at hk (rowL e n) (j / k) (j % k) (e (j / k)) (rowL_at e hi) hm
  rw [e1, hj] at h2
  rw [← e1, h _ _ hi hm, ← h2]
theorem ShAt.flat {w : World} {b off n cap : Nat} {e : Nat → Sh} (h : ShAt w (.slice (some ⟨b, off, none⟩) n cap) n e) : ∀ j u, (flatL Sh.enc (rowL e n))[j]? = some u → w.cell? ⟨b, off + j, none⟩ = some u := by
  refine flat_cells_at Sh.enc_len (by decide) fun i j hi hj => ?_
  obtain ⟨oa, cap', h1, h2, h3, h4⟩ := h
  obtain ⟨b', off', e', hlt, hc⟩ := h4 (by omega)
  cases h1
  cases e'
  rw [hc i j hi hj]
  match j, hj with
  | 0, _ => rfl
  | 1, _ => rfl
  | 2, _ => rfl
  | 3, _ => rfl
  | 4, _ => rfl
  | 5, _ => rfl
theorem BrAt.flat {w : World} {b off n cap : Nat} {e : Nat → Br} (h : BrAt w (.slice (some ⟨b, off, none⟩) n cap) n e) : ∀ j u, (flatL Br.enc (rowL e n))[j]? = some u → w.cell? ⟨b, off + j, none⟩ = some u := by
  refine flat_cells_at Br.enc_len (by decide) fun i j hi hj => ?_
  obtain ⟨oa, cap', h1, h2, h3, h4⟩ := h
  obtain ⟨b', off', e', hlt, hc⟩ := h4 (by omega)
  cases h1
  cases e'
  rw [hc i j hi hj]
  match j, hj with
  | 0, _ => rfl
  | 1, _ => rfl
  | 2, _ => rfl
  | 3, _ => rfl
  | 4, _ => rfl

/-- the catalog -/
structure Mat where
  ng : Nat
  nm : Nat → ByteArray
  de : Nat → Int
  yi : Nat → Int
  gn : Nat → Nat
  gf : Nat → Nat → Int
  ns : Nat
  sn : Nat → ByteArray
  sa : Nat → Int
  sh : Nat → Int
  ss : Nat → Int
def GrAt (w : World) (v : Value) (m : Mat) (gv : Nat → Value) : Prop :=
  SliceAt w v m.ng 4 (fun i j => match j with | 0 => .string (m.nm i) | 1 => .int .i64 (m.de i) | 2 => .int .i64 (m.yi i) | _ => gv i) ∧ ∀ i, i < m.ng → IntsAt w (gv i) (m.gn i) (m.gf i)
def SeAt (w : World) (v : Value) (m : Mat) : Prop :=
  SliceAt w v m.ns 4 (fun i j => match j with | 0 => .string (m.sn i) | 1 => .int .i64 (m.sa i) | 2 => .int .i64 (m.sh i) | _ => .int .i64 (m.ss i))
theorem GrAt.below {w w' : World} {v : Value} {m : Mat} {gv : Nat → Value} (h : GrAt w v m gv) (hb : Below w.heap.size w w') : GrAt w' v m gv := ⟨h.1.below hb, fun i hi => (h.2 i hi).below hb⟩
theorem SeAt.below {w w' : World} {v : Value} {m : Mat} (h : SeAt w v m) (hb : Below w.heap.size w w') : SeAt w' v m := SliceAt.below h hb
theorem GrAt.form {w : World} {v : Value} {m : Mat} {gv : Nat → Value} (h : GrAt w v m gv) : ∃ (oa : Option Addr) (cap : Nat), v = .slice oa m.ng cap ∧ m.ng ≤ 9223372036854775807 ∧
    ∀ i, i < m.ng → ∃ b off, oa = some ⟨b, off, none⟩ ∧ b < w.heap.size ∧ ∀ k, k < m.ng → w.cell? ⟨b, off + k * 4, none⟩ = some (.string (m.nm k)) ∧ w.cell? ⟨b, off + k * 4 + 1, none⟩ = some (.int .i64 (m.de k)) ∧ w.cell? ⟨b, off + k * 4 + 2, none⟩ = some (.int .i64 (m.yi k)) ∧ w.cell? ⟨b, off + k * 4 + 3, none⟩ = some (gv k) := by
  obtain ⟨⟨oa, cap, h1, h2, h3, h4⟩, _⟩ := h
  refine ⟨oa, cap, h1, by omega, fun i hi => ?_⟩
  obtain ⟨b, off, e', hlt, hc⟩ := h4 (by omega)
  exact ⟨b, off, e', hlt, fun k hk => ⟨hc k 0 hk (by decide), hc k 1 hk (by decide), hc k 2 hk (by decide), hc k 3 hk (by decide)⟩⟩
theorem SeAt.form {w : World} {v : Value} {m : Mat} (h : SeAt w v m) : ∃ (oa : Option Addr) (cap : Nat), v = .slice oa m.ns cap ∧ m.ns ≤ 9223372036854775807 ∧
    ∀ i, i < m.ns → ∃ b off, oa = some ⟨b, off, none⟩ ∧ b < w.heap.size ∧ ∀ k, k < m.ns → w.cell? ⟨b, off + k * 4, none⟩ = some (.string (m.sn k)) ∧ w.cell? ⟨b, off + k * 4 + 1, none⟩ = some (.int .i64 (m.sa k)) ∧ w.cell? ⟨b, off + k * 4 + 2, none⟩ = some (.int .i64 (m.sh k)) ∧ w.cell? ⟨b, off + k * 4 + 3, none⟩ = some (.int .i64 (m.ss k)) := by
  obtain ⟨oa, cap, h1, h2, h3, h4⟩ := h
  refine ⟨oa, cap, h1, by omega, fun i hi => ?_⟩
  obtain ⟨b, off, e', hlt, hc⟩ := h4 (by omega)
  exact ⟨b, off, e', hlt, fun k hk => ⟨hc k 0 hk (by decide), hc k 1 hk (by decide), hc k 2 hk (by decide), hc k 3 hk (by decide)⟩⟩
/-- which grade, which section bears a name -/
def Mat.gi (m : Mat) (s : ByteArray) : Nat := firstFrom (fun i => (m.nm i).toList == s.toList) m.ng 0
def Mat.si (m : Mat) (s : ByteArray) : Nat := firstFrom (fun i => (m.sn i).toList == s.toList) m.ns 0
def Mat.hasG (m : Mat) (s : ByteArray) : Bool := decide (m.gi s < m.ng)
def Mat.hasS (m : Mat) (s : ByteArray) : Bool := decide (m.si s < m.ns)
/-- where a gauge stands among those of a grade -/
def Mat.ti (m : Mat) (i : Nat) (t : Int) : Nat := firstFrom (fun j => m.gf i j == t) (m.gn i) 0
def Mat.rolled (m : Mat) (s : ByteArray) (t : Int) : Bool := m.hasG s && decide (m.ti (m.gi s) t < m.gn (m.gi s))
def sideB (n : Int) : Bool := decide (1 ≤ n) && decide (n ≤ 32768)
def sheetE (m : Mat) (x : Sh) : Int := if (idB x.id && idB x.heat) = false then 6 else if m.rolled x.grade x.thick = false then 23 else if (sideB x.len && sideB x.wid) = false then 9 else 0
def barE (m : Mat) (x : Br) : Int := if (idB x.id && idB x.heat) = false then 6 else if (m.hasS x.sect && m.hasG x.grade) = false then 23 else if sideB x.len = false then 9 else 0
/-- the less one of two by their names -/
def ltB (a b : ByteArray) : Bool := Op.bytesLess a.toList b.toList
section
variable {α : Type}
def chkAt (E : α → Int) (f : α → ByteArray) (e : Nat → α) (k : Nat) : Int := if E (e k) ≠ 0 then E (e k) else if 0 < k ∧ ltB (f (e (k - 1))) (f (e k)) = false then 11 else 0
def chkFrom (E : α → Int) (f : α → ByteArray) (e : Nat → α) : Nat → Nat → Int
  | 0, _ => 0
  | n + 1, k => if chkAt E f e k ≠ 0 then chkAt E f e k else chkFrom E f e n (k + 1)
theorem chkFrom_bad {E : α → Int} {f : α → ByteArray} {e : Nat → α} {n j : Nat} (hl : j < n) (h : chkAt E f e j ≠ 0) : chkFrom E f e (n - j) j = chkAt E f e j := by
  rw [show n - j = (n - j - 1) + 1 by omega, chkFrom, if_pos h]
theorem chkFrom_good {E : α → Int} {f : α → ByteArray} {e : Nat → α} {n j : Nat} (hl : j < n) (h : chkAt E f e j = 0) : chkFrom E f e (n - j) j = chkFrom E f e (n - (j + 1)) (j + 1) := by
  rw [show n - j = (n - (j + 1)) + 1 by omega, chkFrom, if_neg (by rw [h]; decide)]
theorem chkFrom_end {E : α → Int} {f : α → ByteArray} {e : Nat → α} {n j : Nat} (hj : j ≤ n) (hl : ¬ j < n) : chkFrom E f e (n - j) j = 0 := by
  rw [show n - j = 0 by omega, chkFrom]
theorem chkFrom_zero {E : α → Int} {f : α → ByteArray} {e : Nat → α} : ∀ n k, chkFrom E f e n k = 0 ↔ ∀ j, k ≤ j → j < k + n → chkAt E f e j = 0
  | 0, k => ⟨fun _ j h1 h2 => by omega, fun _ => rfl⟩
  | n + 1, k => by
    unfold chkFrom
    by_cases h : chkAt E f e k = 0
    · rw [if_neg (by rw [h]; decide), chkFrom_zero n (k + 1)]
      constructor
      · intro h' j h1 h2
        by_cases e : j = k
        · subst e; exact h
        · exact h' j (by omega) (by omega)
      · intro h' j h1 h2
        exact h' j (by omega) (by omega)
    · rw [if_pos h]
      exact ⟨fun h' => absurd h' h, fun h' => h' k (by omega) (by omega)⟩
/-- where a name stands, or would stand -/
def placeI (f : α → ByteArray) (e : Nat → α) (n : Nat) (s : ByteArray) : Nat := firstFrom (fun h => !ltB (f (e h)) s) n 0
def foundB (f : α → ByteArray) (e : Nat → α) (n : Nat) (s : ByteArray) : Bool := decide (placeI f e n s < n) && (f (e (placeI f e n s))).toList == s.toList
def AscB (f : α → ByteArray) (e : Nat → α) (n : Nat) : Prop := ∀ i j, i < j → j < n → ltB (f (e i)) (f (e j)) = true
def addE (f : α → ByteArray) (e : Nat → α) (n : Nat) (x : α) : Int := if foundB f e n (f x) then 7 else if 128 ≤ n then 12 else 0
/-- binary search: what lies ahead is less, what lies from there on is not -/
theorem placeI_is {f : α → ByteArray} {e : Nat → α} {n i : Nat} {s : ByteArray} (h0 : i ≤ n) (h1 : ∀ k, k < i → ltB (f (e k)) s = true) (h2 : i < n → ltB (f (e i)) s = false) : placeI f e n s = i :=
  firstFrom_is h0 (fun k hk => by simp [h1 k hk]) (fun h => by simp [h2 h])
theorem placeI_le {f : α → ByteArray} {e : Nat → α} {n : Nat} {s : ByteArray} : placeI f e n s ≤ n := by
  have := (firstFrom_spec (fun h => !ltB (f (e h)) s) n 0).2.1
  unfold placeI; omega
theorem placeI_lt {f : α → ByteArray} {e : Nat → α} {n : Nat} {s : ByteArray} {k : Nat} (h : k < placeI f e n s) : ltB (f (e k)) s = true := by
  have := (firstFrom_spec (fun h => !ltB (f (e h)) s) n 0).2.2.2 k (by omega) h
  simpa using this
theorem placeI_not {f : α → ByteArray} {e : Nat → α} {n : Nat} {s : ByteArray} (h : placeI f e n s < n) : ltB (f (e (placeI f e n s))) s = false := by
  have := (firstFrom_spec (fun h => !ltB (f (e h)) s) n 0).2.2.1 (by unfold placeI at h; omega)
  simpa [placeI] using this
theorem ltB_trans {a b c : ByteArray} (h1 : ltB a b = true) (h2 : ltB b c = true) : ltB a c = true := bl_trans _ _ _ h1 h2
theorem ltB_irrefl (a : ByteArray) : ltB a a = false := bl_irrefl _
theorem ltB_asymm {a b : ByteArray} (h : ltB a b = true) : ltB b a = false := bl_asymm h
theorem ltB_total {a b : ByteArray} (h : ltB a b = false) (hn : a ≠ b) : ltB b a = true := bl_total _ _ h (fun e => hn (toList_inj e))
theorem asc_not {f : α → ByteArray} {e : Nat → α} {n : Nat} {s : ByteArray} (ha : AscB f e n) {i k : Nat} (hik : i ≤ k) (hk : k < n) (h : ltB (f (e i)) s = false) : ltB (f (e k)) s = false := by
  by_cases hq : i = k
  · subst hq; exact h
  cases hx : ltB (f (e k)) s with
  | false => rfl
  | true => rw [ltB_trans (ha i k (by omega) hk) hx] at h; cases h
theorem asc_yes {f : α → ByteArray} {e : Nat → α} {n : Nat} {s : ByteArray} (ha : AscB f e n) {i k : Nat} (hik : i ≤ k) (hk : k < n) (h : ltB (f (e k)) s = true) : ltB (f (e i)) s = true := by
  by_cases hq : i = k
  · subst hq; exact h
  · exact ltB_trans (ha i k (by omega) hk) h
/-- found: some element bears the name -/
theorem found_iff {f : α → ByteArray} {e : Nat → α} {n : Nat} {s : ByteArray} (ha : AscB f e n) : foundB f e n s = true ↔ ∃ k, k < n ∧ f (e k) = s := by
  unfold foundB
  simp only [Bool.and_eq_true, decide_eq_true_eq, beq_iff_eq]
  constructor
  · rintro ⟨h1, h2⟩
    exact ⟨_, h1, toList_inj h2⟩
  · rintro ⟨k, hk, rfl⟩
    have hp : placeI f e n (f (e k)) = k := placeI_is (by omega) (fun j hj => ha j k hj hk) (fun _ => ltB_irrefl _)
    rw [hp]
    exact ⟨hk, rfl⟩
theorem found_at {f : α → ByteArray} {e : Nat → α} {n k : Nat} (ha : AscB f e n) (hk : k < n) : placeI f e n (f (e k)) = k := placeI_is (by omega) (fun j hj => ha j k hj hk) (fun _ => ltB_irrefl _)
def ltR (f : α → ByteArray) (x y : α) : Prop := ltB (f x) (f y) = true
theorem ltR_trans (f : α → ByteArray) : ∀ x y z, ltR f x y → ltR f y z → ltR f x z := fun x y z h1 h2 => ltB_trans h1 h2
theorem ltR_irrefl (f : α → ByteArray) : ∀ x, ¬ ltR f x x := fun x h => by unfold ltR at h; rw [ltB_irrefl] at h; cases h
theorem asc_ascF {f : α → ByteArray} {e : Nat → α} {n : Nat} : AscB f e n ↔ AscF (ltR f) e n := Iff.rfl
theorem place_placeF {f : α → ByteArray} {e : Nat → α} {n : Nat} {x : α} (ha : AscB f e n) (hf : foundB f e n (f x) = false) : PlaceF (ltR f) e n x (placeI f e n (f x)) := by
  refine ⟨placeI_le, fun h hh => placeI_lt hh, fun h h1 h2 => ?_⟩
  have h3 := asc_not ha h1 h2 (placeI_not (by omega))
  refine ltB_total h3 fun he => ?_
  have := (found_iff (s := f x) ha).2 ⟨h, h2, he⟩
  rw [this] at hf; cases hf
theorem placeF_place {f : α → ByteArray} {e : Nat → α} {n : Nat} {x : α} {i : Nat} (h : PlaceF (ltR f) e n x i) : placeI f e n (f x) = i ∧ foundB f e n (f x) = false := by
  have hp : placeI f e n (f x) = i := placeI_is h.1 (fun k hk => h.2.1 k hk) (fun hl => ltB_asymm (h.2.2 i (Nat.le_refl _) hl))
  refine ⟨hp, ?_⟩
  unfold foundB
  rw [hp]
  by_cases hl : i < n
  · have h3 := h.2.2 i (Nat.le_refl _) hl
    cases hq : (f (e i)).toList == (f x).toList with
    | false => simp
    | true =>
      have h4 := toList_inj (beq_iff_eq.1 hq)
      unfold ltR at h3
      rw [h4, ltB_irrefl] at h3
      cases h3
  · simp [hl]
theorem asc_of_chk {E : α → Int} {f : α → ByteArray} {e : Nat → α} {n : Nat} (h : chkFrom E f e n 0 = 0) : (∀ j, j < n → E (e j) = 0) ∧ AscB f e n := by
  have h1 := (chkFrom_zero n 0).1 h
  have h2 : ∀ j, j < n → E (e j) = 0 := fun j hj => by
    have := h1 j (by omega) (by omega)
    unfold chkAt at this
    split at this
    · exact this
    · rename_i h; exact Decidable.not_not.1 h
  refine ⟨h2, fun i j hij hj => ?_⟩
  refine asc_lt (f := fun k => (f (e k)).toList) (n := n) (fun k h0 hk => ?_) hij hj
  have := h1 k (by omega) (by omega)
  unfold chkAt at this
  rw [if_neg (by rw [h2 k hk]; decide)] at this
  split at this
  · cases this
  · rename_i h
    cases hx : ltB (f (e (k - 1))) (f (e k)) with
    | true => exact hx
    | false => exact absurd ⟨h0, hx⟩ h
theorem chk_of_asc {E : α → Int} {f : α → ByteArray} {e : Nat → α} {n : Nat} (h2 : ∀ j, j < n → E (e j) = 0) (ha : AscB f e n) : chkFrom E f e n 0 = 0 := by
  refine (chkFrom_zero n 0).2 fun j _ hj => ?_
  unfold chkAt
  rw [if_neg (by rw [h2 j (by omega)]; decide), if_neg]
  rintro ⟨h0, hx⟩
  rw [ha (j - 1) j (by omega) (by omega)] at hx
  cases hx
end
end Go.Proofs.YtgbhhjdmochhpaaGreatDoor
