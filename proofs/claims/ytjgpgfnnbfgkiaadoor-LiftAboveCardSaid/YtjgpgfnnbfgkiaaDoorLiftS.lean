/-
  Plain laws of a lift by one hook. Conditions: none. By an AI agent.
-/
import Derived.Test.YtjgpgfnnbfgkiaaDoorLiftP
import Derived.Test.YtjgpgfnnbfgkiaaDoorStrs
import Derived.Test.YtjgpgfnnbfgkiaaDoorCells
import Derived.Test.YtjgpgfnnbfgkiaaDoorCraneB
namespace Go.Proofs.YtjgpgfnnbfgkiaaDoor
open Go Go.ChangeShapes Go.WideShapes Go.RowKit Go.ChangeAt
set_option linter.unusedSimpArgs false
set_option linter.unusedVariables false
theorem check_all {n : Nat} {nm : Nat → ByteArray} {rn : Nat → Nat} {r q : Nat → Nat → Int} : ∀ k j, checkFrom n nm rn r q k j = 0 → ∀ i, j ≤ i → i < j + k → CheckErr nm rn r q i = 0
  | 0, j, _, i, h1, h2 => by omega
  | k + 1, j, h, i, h1, h2 => by
    unfold checkFrom at h
    split at h
    · rename_i hc; exact absurd h hc
    · rename_i hc
      by_cases e : i = j
      · subst e; omega
      · exact check_all k (j + 1) h i (by omega) (by omega)
theorem check_asc {n : Nat} {nm : Nat → ByteArray} {rn : Nat → Nat} {r q : Nat → Nat → Int} (h : checkF n nm rn r q = 0) : ∀ j, 0 < j → j < n → Op.bytesLess (nm (j - 1)).toList (nm j).toList = true := by
  intro j h0 hj
  unfold checkF at h
  split at h
  · cases h
  · have h1 := check_all n 0 h j (by omega) (by omega)
    unfold CheckErr at h1
    split at h1
    · cases h1
    · split at h1
      · cases h1
      · rename_i h2
        have h3 : strLe (nm j) (nm (j - 1)) = false := by
          cases e : strLe (nm j) (nm (j - 1)) with
          | false => rfl
          | true => exact absurd ⟨h0, e⟩ h2
        unfold strLe at h3
        rw [Bool.or_eq_false_iff] at h3
        exact bl_total _ _ h3.1 (by simpa using h3.2)
theorem find_own {n : Nat} {nm : Nat → ByteArray} (h : ∀ j, 0 < j → j < n → Op.bytesLess (nm (j - 1)).toList (nm j).toList = true) {i : Nat} (hi : i < n) : findF n nm (nm i) = i := by
  unfold findF
  obtain ⟨h0, h1, h2, h3⟩ := firstFrom_spec (fun k => (nm k).toList == (nm i).toList) n 0
  generalize firstFrom (fun k => (nm k).toList == (nm i).toList) n 0 = F at *
  rcases Nat.lt_trichotomy F i with hl | rfl | hl
  · have h4 := h2 (by omega)
    have h5 := asc_ne (f := fun k => (nm k).toList) h (i := F) (j := i) (by omega) hi (by omega)
    exact absurd (eq_of_beq h4) h5
  · rfl
  · have h4 := h3 i (by omega) hl
    simp at h4
theorem opt_mem {nm : Nat → ByteArray} {rn : Nat → Nat} {r q : Nat → Nat → Int} {rad g : Int} : ∀ (k : Nat) (s : ByteArray), s ∈ optTo nm rn r q rad g k ↔ ∃ i, i < k ∧ g ≤ loadF (rn i) (r i) (q i) rad ∧ nm i = s
  | 0, s => ⟨fun h => by simp [optTo] at h, fun ⟨i, h, _⟩ => by omega⟩
  | k + 1, s => by
    unfold optTo
    split
    · rename_i hg
      rw [List.mem_append, opt_mem k s]
      constructor
      · rintro (⟨i, h1, h2, h3⟩ | h)
        · exact ⟨i, by omega, h2, h3⟩
        · exact ⟨k, by omega, hg, (List.mem_singleton.1 h).symm⟩
      · rintro ⟨i, h1, h2, h3⟩
        by_cases e : i = k
        · subst e; exact .inr (by simp [h3])
        · exact .inl ⟨i, by omega, h2, h3⟩
    · rename_i hg
      rw [opt_mem k s]
      constructor
      · rintro ⟨i, h1, h2, h3⟩; exact ⟨i, by omega, h2, h3⟩
      · rintro ⟨i, h1, h2, h3⟩
        by_cases e : i = k
        · subst e; exact absurd h2 hg
        · exact ⟨i, by omega, h2, h3⟩
/-- whether a name stands among the first of a list -/
def inTo (l : List ByteArray) (s : ByteArray) : Nat → Bool
  | 0 => false
  | k + 1 => inTo l s k || (l.getD k ⟨#[]⟩).toList == s.toList
theorem inTo_iff {l : List ByteArray} {s : ByteArray} : ∀ {k : Nat}, inTo l s k = true ↔ ∃ i, i < k ∧ (l.getD i ⟨#[]⟩).toList = s.toList
  | 0 => ⟨fun h => (by cases h), fun ⟨i, h, _⟩ => (by omega)⟩
  | k + 1 => by
    unfold inTo
    rw [Bool.or_eq_true, inTo_iff (k := k), beq_iff_eq]
    constructor
    · rintro (⟨i, h1, h2⟩ | h)
      · exact ⟨i, by omega, h2⟩
      · exact ⟨k, by omega, h⟩
    · rintro ⟨i, h1, h2⟩
      by_cases e : i = k
      · subst e; exact .inr h2
      · exact .inl ⟨i, by omega, h2⟩
theorem in_opt {n : Nat} {nm : Nat → ByteArray} {rn : Nat → Nat} {r q : Nat → Nat → Int} {rad g : Int} (h : ∀ j, 0 < j → j < n → Op.bytesLess (nm (j - 1)).toList (nm j).toList = true) {i : Nat} (hi : i < n) :
    inTo (optTo nm rn r q rad g n) (nm i) (optTo nm rn r q rad g n).length = decide (g ≤ loadF (rn i) (r i) (q i) rad) := by
  by_cases hg : g ≤ loadF (rn i) (r i) (q i) rad
  · rw [decide_eq_true hg, inTo_iff]
    have hm : nm i ∈ optTo nm rn r q rad g n := (opt_mem n _).2 ⟨i, hi, hg, rfl⟩
    obtain ⟨k, hk, e⟩ := List.mem_iff_getElem.1 hm
    exact ⟨k, hk, by rw [List.getD_eq_getElem?_getD, List.getElem?_eq_getElem hk, Option.getD_some, e]⟩
  · rw [decide_eq_false hg]
    cases e : inTo (optTo nm rn r q rad g n) (nm i) (optTo nm rn r q rad g n).length with
    | false => rfl
    | true =>
      obtain ⟨k, hk, h1⟩ := inTo_iff.1 e
      have hm : (optTo nm rn r q rad g n).getD k ⟨#[]⟩ ∈ optTo nm rn r q rad g n := by rw [List.getD_eq_getElem?_getD, List.getElem?_eq_getElem hk]; exact List.getElem_mem hk
      obtain ⟨j, hj, hgj, e2⟩ := (opt_mem n _).1 hm
      rw [← e2] at h1
      by_cases hij : j = i
      · subst hij; exact absurd hgj hg
      · exact absurd h1 (asc_ne (f := fun k => (nm k).toList) h hj hi hij)
theorem id_B1 : idB ⟨#[66, 49]⟩ = true := by decide +kernel
/-- a lift by one hook above the centre -/
theorem above_one {n : Nat} {nm : Nat → ByteArray} {rn : Nat → Nat} {r q : Nat → Nat → Int} {rad m x y z v : Int} (h : ∀ j, 0 < j → j < n → Op.bytesLess (nm (j - 1)).toList (nm j).toList = true) {i : Nat} (hi : i < n)
    (hg : (grossF m x y z v).2 = 0) (hx : -524288 ≤ roundF x m ∧ roundF x m ≤ 524288) (hy : -524288 ≤ roundF y m ∧ roundF y m ≤ 524288) :
    liftF ⟨#[66, 49]⟩ 1 (fun _ => nm i) (fun _ => roundF x m) (fun _ => roundF y m) (fun _ => rad) m x y z v n nm rn r q = if (grossF m x y z v).1 ≤ loadF (rn i) (r i) (q i) rad then 0 else 25 := by
  have hf := find_own h hi
  have hk : hooksFrom n nm (fun _ => nm i) 1 0 = 0 := by
    unfold hooksFrom
    rw [if_neg (by rw [hf]; omega), if_neg (fun h => by have := h.1; omega)]
    rfl
  have hl : loadsF 1 (fun _ => roundF x m) (fun _ => roundF y m) m x y z v = ([(grossF m x y z v).1], 0) := by
    have ha : allTo (hookIn (fun _ => roundF x m) (fun _ => roundF y m)) 1 = true := allTo_iff.2 fun i _ => decide_eq_true ⟨hx, hy⟩
    unfold loadsF
    rw [if_neg (show ¬ (1 : Nat) = 0 by decide), if_neg (show ¬ 2 < (1 : Nat) by decide), if_neg (fun h => h hg), if_neg (by rw [ha]; decide), if_pos rfl, if_pos (by unfold Nr; simp)]
  unfold liftF
  rw [id_B1, if_neg (by decide), show countF 1 = 0 from rfl, if_neg (fun h => h rfl), hk, if_neg (fun h => h rfl), hl, if_neg (fun h => h rfl)]
  unfold overFrom craneL
  rw [hf]
  have e : findLen n rn i = rn i := if_pos hi
  rw [e]
  by_cases hq : (grossF m x y z v).1 ≤ loadF (rn i) (r i) (q i) rad
  · rw [if_pos hq, if_neg (by simp; omega)]; rfl
  · rw [if_neg hq, if_pos (by simp; omega)]
theorem hooks_one {w : World} {g : Nat} {s : ByteArray} {x y r : Int} {t : TypeId} (hs : s.size ≤ 9223372036854775807) (h : w.heap[g]? = some (.cells #[.string s, .int .i64 x, .int .i64 y, .int .i64 r] t)) :
    HooksAt w (.slice (some ⟨g, 0, none⟩) 1 1) 1 (fun _ => s) (fun _ => x) (fun _ => y) (fun _ => r) := by
  obtain ⟨k0, k1, k2, k3, -, hl⟩ := cells_at4 h
  refine ⟨⟨_, 1, rfl, by omega, by omega, fun _ => ⟨_, 0, rfl, hl, fun i j hi hj => ?_⟩⟩, fun i hi => hs⟩
  rcases (by omega : i = 0) with rfl
  rcases (by omega : j = 0 ∨ j = 1 ∨ j = 2 ∨ j = 3) with rfl | rfl | rfl | rfl
  · exact k0
  · exact k1
  · exact k2
  · exact k3
theorem opt_none {n : Nat} {nm : Nat → ByteArray} {rn : Nat → Nat} {r q : Nat → Nat → Int} {rad m x y z v : Int} (h : divF m x y z v ≠ 0) : optF n nm rn r q rad m x y z v = [] := by
  unfold optF
  rw [if_pos]
  unfold grossF
  unfold divF at h
  split at h
  · rename_i hw
    rw [if_pos hw]
    split at h
    · rename_i hm; rw [if_pos hm]; decide
    · exact absurd rfl h
  · rename_i hw; rw [if_neg hw]; decide
end Go.Proofs.YtjgpgfnnbfgkiaaDoor
