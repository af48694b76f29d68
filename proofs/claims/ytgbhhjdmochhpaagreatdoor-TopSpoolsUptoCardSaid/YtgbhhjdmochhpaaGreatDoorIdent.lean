/-
  What ident.IsName and its reference return, by walks. Conditions: none but the length of a string. By an AI agent.
-/
import Derived.Test.YtgbhhjdmochhpaaGreatDoorBase
namespace Go.Proofs.YtgbhhjdmochhpaaGreatDoor
open Go.RowKit
set_option linter.unusedSimpArgs false

/-- the byte at a place -/
def byteAt (s : ByteArray) (i : Nat) : Nat := if h : i < s.size then (s[i]'h).toNat else 0
theorem byteAt_eq (s : ByteArray) (i : Nat) (h : i < s.size) : byteAt s i = (s[i]'h).toNat := dif_pos h
theorem byteAt_lt (s : ByteArray) (i : Nat) : byteAt s i < 256 := by
  unfold byteAt; split
  · exact UInt8.toNat_lt _
  · omega
def LetterN (c : Nat) : Prop := (65 ≤ c ∧ c ≤ 90) ∨ (97 ≤ c ∧ c ≤ 122)
def FurtherN (c : Nat) : Prop := (48 ≤ c ∧ c ≤ 57) ∨ c = 95 ∨ c = 45
def OkAt (s : ByteArray) (i : Nat) : Prop := LetterN (byteAt s i) ∨ (0 < i ∧ FurtherN (byteAt s i))
instance okAt_dec (s : ByteArray) (i : Nat) : Decidable (OkAt s i) := by unfold OkAt LetterN FurtherN; exact inferInstance
def NameOk (s : ByteArray) : Prop := 1 ≤ s.size ∧ s.size ≤ 16 ∧ ∀ i, i < s.size → OkAt s i
instance nameOk_dec (s : ByteArray) : Decidable (NameOk s) := by unfold NameOk; exact inferInstance
def nameB (s : ByteArray) : Bool := decide (NameOk s)

theorem iter_below (w : World) (s : ByteArray) (p : Nat) : Below w.heap.size w (w.iter s p) := (Below.refl _ _).alloc (Nat.le_refl _) _

theorem next_byte {P : Program} (w : World) (s : ByteArray) (p c : Nat) (ty : TypeId) (h : p < s.size) (hc : byteAt s p = c) (ha : c < 128) :
    (Instr.next (.pointer (some ⟨w.heap.size, 0, none⟩)) true ty).run P (w.iter s p) = .ok (.tuple #[.bool true, .int .i64 p, .int .i32 c]) (w.iter s (p + 1)) := by
  rw [byteAt_eq s p h] at hc
  rw [run_next_ascii w s p ty h (by omega), hc]
theorem next_high {P : Program} (w : World) (s : ByteArray) (p : Nat) (ty : TypeId) (h : p < s.size) (ha : 128 ≤ byteAt s p) :
    ∃ (r q : Nat), 128 ≤ r ∧ r ≤ 2147483647 ∧ (Instr.next (.pointer (some ⟨w.heap.size, 0, none⟩)) true ty).run P (w.iter s p) = .ok (.tuple #[.bool true, .int .i64 p, .int .i32 r]) (w.iter s q) := by
  rw [byteAt_eq s p h] at ha
  exact ⟨_, _, (decode_high s p h ha).1, decode_le s p, run_next_any w s p ty h⟩

set_option maxHeartbeats 2000000 in
theorem isName_yes (s : ByteArray) (w : World) (h : NameOk s) :
    Calls Tryz.prog 95 #[.string s] w fun e w' => e = .returned (.bool true) ∧ Below w.heap.size w w' := by
  obtain ⟨h1, h16, hall⟩ := h
  have he : s.toList.isEmpty = false := by
    rw [ByteArray.toList_eq]; simp; intro e; have : s.size = 0 := by simp [ByteArray.size, e]
    omega
  have hle : decide (16 < (s.size : Int)) = false := decide_eq_false (by omega)
  have H := Lib.hid hall
  clear hall
  go_enter Tryz.func95, Tryz.ntmps95
  go_wp2
  go_loopw [] (fun wr => ∃ p, p ≤ s.size ∧ wr = w.iter s p) (fun wr => s.size - wr.iterPos w.heap.size)
  case atStart => exact ⟨0, by omega, rfl⟩
  case round =>
    obtain ⟨p, hp, rfl⟩ := hrel
    by_cases hlt : p < s.size
    · have hok := H.out p hlt
      obtain ⟨c, hc⟩ : ∃ c, byteAt s p = c := ⟨_, rfl⟩
      unfold OkAt at hok
      rw [hc] at hok
      have hc128 : c < 128 := by unfold LetterN FurtherN at hok; omega
      have hnx := fun ty => next_byte (P := Tryz.prog) w s p c ty hlt hc hc128
      clear hc
      rcases hok with (⟨k0, k1⟩ | ⟨k0, k1⟩) | ⟨k2, (⟨k0, k1⟩ | k0 | k0)⟩
      all_goals (try subst k0)
      all_goals go_wp2
      all_goals go_roundw
      all_goals first | (case rel => exact ⟨p + 1, by omega, rfl⟩) | (case measure => simp; omega)
    · have hnx := fun ty => run_next_end (P := Tryz.prog) w s p ty hlt
      go_wp2
      go_ret
      exact ⟨rfl, iter_below _ _ _⟩

theorem empty_toList {s : ByteArray} (h : s.size = 0) : s.toList = [] := by
  rw [ByteArray.toList_eq]
  obtain ⟨⟨l⟩⟩ := s
  simp [ByteArray.size] at h ⊢
  exact h
theorem full_toList {s : ByteArray} (h : 1 ≤ s.size) : s.toList.isEmpty = false := by
  rw [ByteArray.toList_eq]; simp; intro e; have : s.size = 0 := by simp [ByteArray.size, e]
  omega

set_option maxHeartbeats 2000000 in
theorem isName_no (s : ByteArray) (w : World) (hs : s.size ≤ 9223372036854775807) (h : ¬ NameOk s) :
    Calls Tryz.prog 95 #[.string s] w fun e w' => e = .returned (.bool false) ∧ Below w.heap.size w w' := by
  have HN := Lib.hid h
  clear h
  by_cases h0 : s.size = 0
  · have he := empty_toList h0
    clear h0
    go_enter Tryz.func95, Tryz.ntmps95
    go_wp2
    go_returns
    exact ⟨rfl, by go_grown⟩
  have he := full_toList (s := s) (by omega)
  by_cases h16 : 16 < s.size
  · have hle : decide (16 < (s.size : Int)) = true := decide_eq_true (by omega)
    go_enter Tryz.func95, Tryz.ntmps95
    go_wp2
    go_returns
    exact ⟨rfl, by go_grown⟩
  have hle : decide (16 < (s.size : Int)) = false := decide_eq_false (by omega)
  have h1 : 1 ≤ s.size := by omega
  have h17 : s.size ≤ 16 := by omega
  clear h0 h16
  go_enter Tryz.func95, Tryz.ntmps95
  go_wp2
  go_loopw [] (fun wr => ∃ p, p ≤ s.size ∧ wr = w.iter s p ∧ Hid (∀ i, i < p → OkAt s i)) (fun wr => s.size - wr.iterPos w.heap.size)
  case atStart => exact ⟨0, by omega, rfl, fun i hi => by omega⟩
  case round =>
    obtain ⟨p, hp, rfl, hall⟩ := hrel
    by_cases hlt : p < s.size
    · obtain ⟨c, hc⟩ : ∃ c, byteAt s p = c := ⟨_, rfl⟩
      by_cases hok : OkAt s p
      · have hall2 : Hid (∀ i, i < p + 1 → OkAt s i) := fun i hi => by
          by_cases e : i = p
          · subst e; exact hok
          · exact hall.out i (by omega)
        unfold OkAt at hok
        rw [hc] at hok
        have hc128 : c < 128 := by unfold LetterN FurtherN at hok; omega
        have hnx := fun ty => next_byte (P := Tryz.prog) w s p c ty hlt hc hc128
        clear hc
        rcases hok with (⟨k0, k1⟩ | ⟨k0, k1⟩) | ⟨k2, (⟨k0, k1⟩ | k0 | k0)⟩
        all_goals (try subst k0)
        all_goals go_wp2
        all_goals go_roundw
        all_goals first | (case rel => exact ⟨p + 1, by omega, rfl, hall2⟩) | (case measure => simp; omega)
      · unfold OkAt LetterN FurtherN at hok
        rw [hc] at hok
        by_cases hc128 : c < 128
        · have hnx := fun ty => next_byte (P := Tryz.prog) w s p c ty hlt hc hc128
          clear hc
          by_cases hp0 : p = 0
          · subst hp0
            have k1 : ¬ (65 ≤ c ∧ c ≤ 90) := fun h => hok (.inl (.inl h))
            have k2 : ¬ (97 ≤ c ∧ c ≤ 122) := fun h => hok (.inl (.inr h))
            clear hok
            go_wp2
            all_goals first | (exfalso; omega) | (go_returns; exact ⟨rfl, iter_below _ _ _⟩) | (exfalso; simp only [Bool.not_eq_false', Bool.not_eq_true', decide_eq_true_eq, decide_eq_false_iff_not, beq_eq_false_iff_ne, beq_iff_eq] at *; omega)
          · have k0 : 0 < p := by omega
            have k1 : ¬ (65 ≤ c ∧ c ≤ 90) := fun h => hok (.inl (.inl h))
            have k2 : ¬ (97 ≤ c ∧ c ≤ 122) := fun h => hok (.inl (.inr h))
            have k3 : ¬ (48 ≤ c ∧ c ≤ 57) := fun h => hok (.inr ⟨k0, .inl h⟩)
            have k4 : ((c : Int) == 95) = false := by simp; intro h; exact hok (.inr ⟨k0, .inr (.inl (by omega))⟩)
            have k5 : ((c : Int) == 45) = false := by simp; intro h; exact hok (.inr ⟨k0, .inr (.inr (by omega))⟩)
            clear hok hp0
            go_wp2
            all_goals first | (exfalso; omega) | (go_returns; exact ⟨rfl, iter_below _ _ _⟩) | (exfalso; simp only [Bool.not_eq_false', Bool.not_eq_true', decide_eq_true_eq, decide_eq_false_iff_not, beq_eq_false_iff_ne, beq_iff_eq] at *; omega)
        · obtain ⟨r, q, hr0, hr1, hnx0⟩ := next_high (P := Tryz.prog) w s p 21 hlt (by omega)
          have hnx : ∀ ty, (Instr.next (.pointer (some ⟨w.heap.size, 0, none⟩)) true ty).run Tryz.prog (w.iter s p) = .ok (.tuple #[.bool true, .int .i64 p, .int .i32 r]) (w.iter s q) := fun ty => hnx0
          clear hnx0 hc hok
          have k4 : ((r : Int) == 95) = false := by simp; omega
          have k5 : ((r : Int) == 45) = false := by simp; omega
          go_wp2
          all_goals first | (exfalso; omega) | (go_returns; exact ⟨rfl, iter_below _ _ _⟩) | (exfalso; simp only [Bool.not_eq_false', Bool.not_eq_true', decide_eq_true_eq, decide_eq_false_iff_not, beq_eq_false_iff_ne, beq_iff_eq] at *; omega)
    · exact absurd ⟨h1, h17, fun i hi => hall.out i (by omega)⟩ HN.out
theorem isName_any (s : ByteArray) (w : World) (hs : s.size ≤ 9223372036854775807) :
    Calls Tryz.prog 95 #[.string s] w fun e w' => e = .returned (.bool (nameB s)) ∧ Below w.heap.size w w' := by
  by_cases h : NameOk s
  · rw [show nameB s = true from decide_eq_true h]; exact isName_yes s w h
  · rw [show nameB s = false from decide_eq_false h]; exact isName_no s w hs h
end Go.Proofs.YtgbhhjdmochhpaaGreatDoor
