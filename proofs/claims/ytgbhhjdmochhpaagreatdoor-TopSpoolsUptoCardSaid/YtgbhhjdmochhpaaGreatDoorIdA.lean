/-
  The pieces of a string between its full stops: the library's Split and the reference's loop give the same ones. Conditions: none. By an AI agent.
-/
import Derived.Test.YtgbhhjdmochhpaaGreatDoorSplit
import Derived.Test.YtgbhhjdmochhpaaGreatDoorIdent
import Derived.Test.YtgbhhjdmochhpaaGreatDoorInts
namespace Go.Proofs.YtgbhhjdmochhpaaGreatDoor
open Go Go.RowKit
set_option linter.unusedVariables false
set_option linter.unusedSimpArgs false

theorem index_cons (b c : UInt8) (l : List UInt8) : Lib.index (b :: l) [c] = if b = c then 0 else if Lib.index l [c] = -1 then -1 else Lib.index l [c] + 1 := by
  rw [Lib.index]
  by_cases h : b = c
  · subst h; simp [List.isPrefixOf]
  · have hp : ([c] : List UInt8).isPrefixOf (b :: l) = false := by simp [List.isPrefixOf, Ne.symm h]
    rw [hp, if_neg h]
    simp
theorem index_nil (c : UInt8) : Lib.index [] [c] = -1 := by simp [Lib.index]
theorem index_none (c : UInt8) : ∀ l : List UInt8, (∀ b ∈ l, b ≠ c) → Lib.index l [c] = -1
  | [], _ => index_nil c
  | b :: l, h => by
    rw [index_cons, if_neg (h b (by simp)), if_pos (index_none c l (fun b hb => h b (by simp [hb])))]
theorem index_at (c : UInt8) : ∀ (j : Nat) (l : List UInt8), (∀ k b, k < j → l[k]? = some b → b ≠ c) → l[j]? = some c → Lib.index l [c] = j
  | _, [], _, h => by simp at h
  | 0, b :: l, _, h => by
    have : b = c := by simpa using h
    rw [index_cons, if_pos this]; rfl
  | j + 1, b :: l, hn, h => by
    have ih := index_at c j l (fun k x hk hx => hn (k + 1) x (by omega) (by simpa using hx)) (by simpa using h)
    rw [index_cons, if_neg (hn 0 b (by omega) (by simp)), ih, if_neg (by omega)]
    omega
theorem byte_get (s : ByteArray) (i : Nat) (h : i < s.size) : ∃ b : UInt8, s.data.toList[i]? = some b ∧ b.toNat = byteAt s i := by
  refine ⟨s.data.toList[i]'(by rw [← Lib.size_eq]; exact h), List.getElem?_eq_getElem _, ?_⟩
  rw [byteAt_eq s i h]
  rfl

abbrev dot : ByteArray := ⟨#[46]⟩
theorem dot_data : dot.data.toList = [46] := rfl
theorem extract_get (s : ByteArray) (f j : Nat) : (s.extract f s.size).data.toList[j]? = s.data.toList[f + j]? := by
  rw [Lib.extract_to_end, List.getElem?_drop]

/-- what stands between the full stops, from a place on -/
def partsR (s : ByteArray) : Nat → Nat → Nat → List ByteArray
  | 0, f, _ => [s.extract f s.size]
  | k + 1, f, i => if byteAt s i = 46 then s.extract f i :: partsR s k (i + 1) (i + 1) else partsR s k f (i + 1)
def pieces (s : ByteArray) : List ByteArray := partsR s s.size 0 0

theorem index_dot (s : ByteArray) (f i : Nat) (hf : f ≤ i) (hi : i < s.size) (hn : ∀ j, f ≤ j → j < i → byteAt s j ≠ 46) (h : byteAt s i = 46) : Lib.indexB (s.extract f s.size) dot = ((i - f : Nat) : Int) := by
  refine index_at 46 (i - f) _ (fun k b hk hb => ?_) ?_
  · rw [extract_get] at hb
    obtain ⟨b', hb', e⟩ := byte_get s (f + k) (by omega)
    rw [hb] at hb'
    obtain rfl : b = b' := by simpa using hb'
    intro e2
    subst e2
    exact hn (f + k) (by omega) (by omega) e.symm
  · rw [extract_get, show f + (i - f) = i by omega]
    obtain ⟨b', hb', e⟩ := byte_get s i hi
    rw [hb', show b' = 46 from UInt8.toNat_inj.1 (by rw [e, h]; rfl)]
theorem index_nodot (s : ByteArray) (f : Nat) (hn : ∀ j, f ≤ j → j < s.size → byteAt s j ≠ 46) : Lib.indexB (s.extract f s.size) dot = -1 := by
  refine index_none 46 _ (fun b hb e => ?_)
  obtain ⟨k, hk, rfl⟩ := List.mem_iff_getElem.1 hb
  have h1 : (s.extract f s.size).data.toList[k]? = some ((s.extract f s.size).data.toList[k]) := List.getElem?_eq_getElem hk
  rw [extract_get, e] at h1
  have hlt : f + k < s.size := by
    have := (List.getElem?_eq_some_iff.1 h1).1
    rw [Lib.size_eq]; exact this
  obtain ⟨b', hb', e'⟩ := byte_get s (f + k) hlt
  rw [h1] at hb'
  obtain rfl : (46 : UInt8) = b' := by simpa using hb'
  exact hn (f + k) (by omega) hlt e'.symm

theorem extract_two (s : ByteArray) (f a : Nat) (h : f + a ≤ s.size) : (s.extract f s.size).extract a (s.extract f s.size).size = s.extract (f + a) s.size := by
  have e1 : ((s.extract f s.size).extract a (s.extract f s.size).size).data.toList = (s.extract (f + a) s.size).data.toList := by
    rw [Lib.extract_to_end, Lib.extract_to_end, Lib.extract_to_end, List.drop_drop]
  have e2 := Array.ext' e1
  generalize (s.extract f s.size).extract a (s.extract f s.size).size = p at *
  generalize s.extract (f + a) s.size = q at *
  cases p; cases q
  simp only at e2
  rw [e2]
theorem extract_front (s : ByteArray) (f i : Nat) (hf : f ≤ i) (hi : i ≤ s.size) : (s.extract f s.size).extract 0 (i - f) = s.extract f i := by
  have e1 : ((s.extract f s.size).extract 0 (i - f)).data.toList = (s.extract f i).data.toList := by
    rw [Lib.extract_from_zero, Lib.extract_to_end, Lib.extract_data]
  have e2 := Array.ext' e1
  generalize (s.extract f s.size).extract 0 (i - f) = p at *
  generalize s.extract f i = q at *
  cases p; cases q
  simp only at e2
  rw [e2]

theorem split_parts (s : ByteArray) : ∀ (k f i : Nat), i + k = s.size → f ≤ i → (∀ j, f ≤ j → j < i → byteAt s j ≠ 46) →
    Lib.splitB dot 0 (Lib.countB (s.extract f s.size) dot) (s.extract f s.size) = partsR s k f i
  | 0, f, i, hk, hf, hn => by
    have h := index_nodot s f (fun j h1 h2 => hn j h1 (by omega))
    rw [Lib.countB_miss _ _ h, Lib.splitB_zero]
    rfl
  | k + 1, f, i, hk, hf, hn => by
    unfold partsR
    by_cases h : byteAt s i = 46
    · rw [if_pos h]
      have hi := index_dot s f i hf (by omega) hn h
      rw [Lib.countB_hit _ _ _ (by decide) hi, show (1 + Lib.countB ((s.extract f s.size).extract (i - f + dot.size) (s.extract f s.size).size) dot) = Lib.countB ((s.extract f s.size).extract (i - f + dot.size) (s.extract f s.size).size) dot + 1 by omega,
        Lib.splitB_hit _ _ _ _ _ hi]
      have hd : dot.size = 1 := rfl
      rw [Nat.add_zero, hd, extract_two s f (i - f + 1) (by omega), extract_front s f i hf (by omega), show f + (i - f + 1) = i + 1 by omega]
      rw [split_parts s k (i + 1) (i + 1) (by omega) (Nat.le_refl _) (fun j h1 h2 => by omega)]
    · rw [if_neg h]
      refine split_parts s k f (i + 1) (by omega) (by omega) (fun j h1 h2 => ?_)
      by_cases e : j = i
      · rw [e]; exact h
      · exact hn j h1 (by omega)
theorem extract_all (s : ByteArray) : s.extract 0 s.size = s := by
  have e1 : (s.extract 0 s.size).data.toList = s.data.toList := by rw [Lib.extract_to_end]; rfl
  have e2 := Array.ext' e1
  cases s
  generalize ByteArray.extract _ _ _ = p at *
  cases p
  simp only at e2
  rw [e2]
theorem split_pieces (s : ByteArray) : Lib.splitB dot 0 (Lib.countB s dot) s = pieces s := by
  have := split_parts s s.size 0 0 (by omega) (Nat.le_refl _) (fun j h1 h2 => by omega)
  rw [extract_all] at this
  exact this
theorem pieces_len (s : ByteArray) : (pieces s).length = Lib.countB s dot + 1 := by
  rw [← split_pieces]; exact Lib.splitB_all dot (by decide) 0 _ s rfl
theorem partsR_len (s : ByteArray) : ∀ k f i, 1 ≤ (partsR s k f i).length ∧ (partsR s k f i).length ≤ k + 1
  | 0, _, _ => by simp [partsR]
  | k + 1, f, i => by
    unfold partsR
    split
    · have := partsR_len s k (i + 1) (i + 1); simp only [List.length_cons]; omega
    · have := partsR_len s k f (i + 1); omega
def sizes : List ByteArray → Nat
  | [] => 0
  | p :: l => p.size + sizes l
theorem partsR_sizes (s : ByteArray) : ∀ k f i, i + k = s.size → f ≤ i → sizes (partsR s k f i) + (partsR s k f i).length = s.size - f + 1
  | 0, f, i, hk, hf => by simp [partsR, sizes, ByteArray.size_extract]
  | k + 1, f, i, hk, hf => by
    unfold partsR
    split
    · have := partsR_sizes s k (i + 1) (i + 1) (by omega) (Nat.le_refl _)
      simp only [List.length_cons, sizes, ByteArray.size_extract]
      omega
    · exact partsR_sizes s k f (i + 1) (by omega) (by omega)
theorem pieces_sizes (s : ByteArray) : sizes (pieces s) + (pieces s).length = s.size + 1 := by
  have := partsR_sizes s s.size 0 0 (by omega) (Nat.le_refl _)
  rw [Nat.sub_zero] at this
  exact this
theorem sizes_append : ∀ a b : List ByteArray, sizes (a ++ b) = sizes a + sizes b
  | [], b => by simp [sizes]
  | p :: a, b => by simp only [List.cons_append, sizes, sizes_append a b]; omega

/-- an identifier -/
def idB (s : ByteArray) : Bool := decide (s.size ≤ 64) && decide ((pieces s).length ≤ 8) && (pieces s).all nameB

/-- a list of strings in memory -/
def StrsAt (w : World) (v : Value) (l : List ByteArray) : Prop := SliceAt w v l.length 1 (fun i _ => .string (l.getD i ⟨#[]⟩)) ∧ l.length ≤ 4294967296 ∧ ∀ p ∈ l, p.size ≤ 4294967296
theorem StrsAt.below {w w' : World} {v : Value} {l : List ByteArray} (h : StrsAt w v l) (hb : Below w.heap.size w w') : StrsAt w' v l := ⟨h.1.below hb, h.2⟩
theorem StrsAt.form {w : World} {v : Value} {l : List ByteArray} (h : StrsAt w v l) : ∃ (oa : Option Addr) (cap : Nat), v = .slice oa l.length cap ∧ l.length ≤ 4294967296 ∧ (∀ i, i < l.length → (l.getD i ⟨#[]⟩).size ≤ 4294967296) ∧
    ∀ i, i < l.length → ∃ b off, oa = some ⟨b, off, none⟩ ∧ b < w.heap.size ∧ ∀ k, k < l.length → w.cell? ⟨b, off + k, none⟩ = some (.string (l.getD k ⟨#[]⟩)) := by
  obtain ⟨⟨oa, cap, h1, h2, h3, h4⟩, hlen, hsz⟩ := h
  refine ⟨oa, cap, h1, hlen, fun i hi => hsz _ ?_, fun i hi => ?_⟩
  · rw [List.getD_eq_getElem?_getD, List.getElem?_eq_getElem hi]; exact List.getElem_mem hi
  · obtain ⟨b, off, e, hlt, hc⟩ := h4 (by omega)
    exact ⟨b, off, e, hlt, fun k hk => by have := hc k 0 hk (by decide); simpa using this⟩
end Go.Proofs.YtgbhhjdmochhpaaGreatDoor
