/-
  What the reference's IsName returns, by walks: the same as ident.IsName. Conditions: none but the length of a string. By an AI agent.
-/
import Derived.Test.YtgbhhjdmochhpaaGreatDoorIdent
namespace Go.Proofs.YtgbhhjdmochhpaaGreatDoor
open Go.RowKit
set_option linter.unusedSimpArgs false

set_option maxHeartbeats 1000000 in
theorem letter_yes (c : Nat) (w : World) (h : LetterN c) :
    Calls Tryz.prog 76 #[.int .u8 c] w fun e w' => e = .returned (.bool true) ∧ Below w.heap.size w w' := by
  rcases h with ⟨h0, h1⟩ | ⟨h0, h1⟩
  all_goals go_enter Tryz.func76, Tryz.ntmps76
  all_goals go_wp2
  all_goals go_returns
  all_goals (refine ⟨?_, by go_grown⟩)
  all_goals first | rfl | (exfalso; omega) | (simp; omega)
set_option maxHeartbeats 1000000 in
theorem letter_no (c : Nat) (w : World) (h : ¬ LetterN c) :
    Calls Tryz.prog 76 #[.int .u8 c] w fun e w' => e = .returned (.bool false) ∧ Below w.heap.size w w' := by
  have k1 : ¬ (65 ≤ c ∧ c ≤ 90) := fun e => h (.inl e)
  have k2 : ¬ (97 ≤ c ∧ c ≤ 122) := fun e => h (.inr e)
  clear h
  go_enter Tryz.func76, Tryz.ntmps76
  go_wp2
  all_goals go_returns
  all_goals (refine ⟨?_, by go_grown⟩)
  all_goals first | rfl | (exfalso; omega) | (simp; omega)
set_option maxHeartbeats 1000000 in
theorem digit_yes (c : Nat) (w : World) (h : 48 ≤ c ∧ c ≤ 57) :
    Calls Tryz.prog 77 #[.int .u8 c] w fun e w' => e = .returned (.bool true) ∧ Below w.heap.size w w' := by
  obtain ⟨h0, h1⟩ := h
  go_enter Tryz.func77, Tryz.ntmps77
  go_wp2
  go_returns
  refine ⟨?_, by go_grown⟩
  first | rfl | (simp; omega)
set_option maxHeartbeats 1000000 in
theorem digit_no (c : Nat) (w : World) (h : ¬ (48 ≤ c ∧ c ≤ 57)) :
    Calls Tryz.prog 77 #[.int .u8 c] w fun e w' => e = .returned (.bool false) ∧ Below w.heap.size w w' := by
  go_enter Tryz.func77, Tryz.ntmps77
  go_wp2
  all_goals go_returns
  all_goals (refine ⟨?_, by go_grown⟩)
  all_goals first | rfl | (exfalso; omega) | (simp; omega)

theorem index_byte (t : TypeId) (ht : Tryz.prog.underlying t = some .string) (s : ByteArray) (p c : Nat) (h : p < s.size) (hc : byteAt s p = c) (W : World) :
    (Instr.index t (.string s) (.int .i64 (p : Int))).run Tryz.prog W = .ok (.int .u8 c) W := by
  rw [byteAt_eq s p h] at hc
  subst hc
  simp [go_sem, ht, h]

theorem index_byte0 (t : TypeId) (ht : Tryz.prog.underlying t = some .string) (s : ByteArray) (c : Nat) (h : 0 < s.size) (hc : byteAt s 0 = c) (W : World) :
    (Instr.index t (.string s) (.int .i64 0)).run Tryz.prog W = .ok (.int .u8 c) W := index_byte t ht s 0 c h hc W

set_option maxHeartbeats 2000000 in
theorem rIsName_any (s : ByteArray) (w : World) (hs : s.size ≤ 9223372036854775807) :
    Calls Tryz.prog 37 #[.string s] w fun e w' => e = .returned (.bool (nameB s)) ∧ Below w.heap.size w w' := by
  have hst : Tryz.prog.underlying 9 = some .string := Tryz.underlying9
  by_cases h0 : s.size = 0
  · have he := empty_toList h0
    have hN : nameB s = false := decide_eq_false (fun h => by have := h.1; omega)
    rw [hN]
    clear h0 hN
    go_enter Tryz.func37, Tryz.ntmps37
    go_wp2
    go_returns
    exact ⟨rfl, by go_grown⟩
  have he := full_toList (s := s) (by omega)
  by_cases h16 : 16 < s.size
  · have hle : decide (16 < (s.size : Int)) = true := decide_eq_true (by omega)
    have hN : nameB s = false := decide_eq_false (fun h => by have := h.2.1; omega)
    rw [hN]
    clear hN
    go_enter Tryz.func37, Tryz.ntmps37
    go_wp2
    go_returns
    exact ⟨rfl, by go_grown⟩
  have hle : decide (16 < (s.size : Int)) = false := decide_eq_false (by omega)
  have h1 : 1 ≤ s.size := by omega
  have h17 : s.size ≤ 16 := by omega
  clear h0 h16
  obtain ⟨c0, hc0⟩ : ∃ c, byteAt s 0 = c := ⟨_, rfl⟩
  have hi0 := fun W => index_byte0 9 hst s c0 (by omega) hc0 W
  by_cases hl : LetterN c0
  · have HL : Hid (LetterN (byteAt s 0)) := by rw [hc0]; exact hl
    clear hc0
    go_enter Tryz.func37, Tryz.ntmps37
    go_wp2_with fail
    (go_at_call 76; refine (letter_yes _ _ hl).mono ?_; rintro e w1 ⟨rfl, hB⟩)
    go_wp2_with fail
    have HB := Lib.hid hB
    clear hB hi0
    go_loopw [3] (fun i wr => ∃ p : Nat, p ≤ s.size ∧ i = .int .i64 p ∧ Hid (∀ i, i < p → OkAt s i) ∧ Below w.heap.size w wr) (fun i _ => s.size - (intOf i).toNat)
    case atStart => exact ⟨0, by omega, rfl, fun i hi => by omega, HB.out⟩
    case round =>
      obtain ⟨p, hp, rfl, hall, hb⟩ := hrel
      have HBr := Lib.hid hb
      clear hb
      by_cases hlt : p < s.size
      · obtain ⟨c, hc⟩ : ∃ c, byteAt s p = c := ⟨_, rfl⟩
        have hi := fun W => index_byte 9 hst s p c hlt hc W
        by_cases hok : OkAt s p
        · have hall2 : Hid (∀ i, i < p + 1 → OkAt s i) := fun i hi => by
            by_cases e : i = p
            · subst e; exact hok
            · exact hall.out i (by omega)
          by_cases hL : LetterN c
          · clear hc hok
            go_wp2_with fail
            (go_at_call 76; refine (letter_yes _ _ hL).mono ?_; rintro e w2 ⟨rfl, hB2⟩)
            go_wp2
            go_roundw
            case rel => exact ⟨p + 1, by omega, by go_num, hall2, below_step HBr.out hB2⟩
            case measure => simp [intOf]; omega
          · have hF : FurtherN c := by
              rcases hok with h | h
              · rw [hc] at h; exact absurd h hL
              · rw [hc] at h; exact h.2
            clear hc hok
            by_cases hd : 48 ≤ c ∧ c ≤ 57
            · go_wp2_with fail
              (go_at_call 76; refine (letter_no _ _ hL).mono ?_; rintro e w2 ⟨rfl, hB2⟩)
              go_wp2_with fail
              (go_at_call 77; refine (digit_yes _ _ hd).mono ?_; rintro e w3 ⟨rfl, hB3⟩)
              go_wp2
              go_roundw
              case rel => exact ⟨p + 1, by omega, by go_num, hall2, below_step (below_step HBr.out hB2) hB3⟩
              case measure => simp [intOf]; omega
            · have hk : c = 95 ∨ c = 45 := by unfold FurtherN at hF; omega
              clear hF
              by_cases h95 : c = 95
              · have b1 : ((c : Int) != 95) = false := by simp; omega
                clear hk h95
                go_wp2_with fail
                (go_at_call 76; refine (letter_no _ _ hL).mono ?_; rintro e w2 ⟨rfl, hB2⟩)
                go_wp2_with fail
                (go_at_call 77; refine (digit_no _ _ hd).mono ?_; rintro e w3 ⟨rfl, hB3⟩)
                go_wp2
                go_roundw
                case rel => exact ⟨p + 1, by omega, by go_num, hall2, below_step (below_step HBr.out hB2) hB3⟩
                case measure => simp [intOf]; omega
              · have b1 : ((c : Int) != 95) = true := by simp; omega
                have b2 : ((c : Int) != 45) = false := by simp; omega
                clear hk h95
                go_wp2_with fail
                (go_at_call 76; refine (letter_no _ _ hL).mono ?_; rintro e w2 ⟨rfl, hB2⟩)
                go_wp2_with fail
                (go_at_call 77; refine (digit_no _ _ hd).mono ?_; rintro e w3 ⟨rfl, hB3⟩)
                go_wp2
                go_roundw
                case rel => exact ⟨p + 1, by omega, by go_num, hall2, below_step (below_step HBr.out hB2) hB3⟩
                case measure => simp [intOf]; omega
        · have hN : nameB s = false := decide_eq_false (fun h => hok (h.2.2 p hlt))
          have hp0 : 0 < p := by
            rcases Nat.eq_zero_or_pos p with e | e
            · subst e; exact absurd (.inl HL.out) hok
            · exact e
          have hL : ¬ LetterN c := fun h => hok (.inl (by rw [hc]; exact h))
          have hF : ¬ FurtherN c := fun h => hok (.inr ⟨hp0, by rw [hc]; exact h⟩)
          have hd : ¬ (48 ≤ c ∧ c ≤ 57) := fun h => hF (.inl h)
          have b1 : ((c : Int) != 95) = true := by simp; intro h; exact hF (.inr (.inl (by omega)))
          have b2 : ((c : Int) != 45) = true := by simp; intro h; exact hF (.inr (.inr (by omega)))
          have HN := Lib.hid hN
          clear hc hok hF hN
          go_wp2_with fail
          (go_at_call 76; refine (letter_no _ _ hL).mono ?_; rintro e w2 ⟨rfl, hB2⟩)
          go_wp2_with fail
          (go_at_call 77; refine (digit_no _ _ hd).mono ?_; rintro e w3 ⟨rfl, hB3⟩)
          go_wp2
          go_returns
          rw [HN.out]
          exact ⟨rfl, below_step (below_step HBr.out hB2) hB3⟩
      · have hN : nameB s = true := decide_eq_true ⟨h1, h17, fun i hi => hall.out i (by omega)⟩
        have HN := Lib.hid hN
        clear hN
        go_wp2
        go_ret
        rw [HN.out]
        exact ⟨rfl, HBr.out⟩
  · have hN : nameB s = false := decide_eq_false (fun h => by
      have := h.2.2 0 (by omega)
      rcases this with h | h
      · rw [hc0] at h; exact hl h
      · omega)
    rw [hN]
    clear hc0 hN
    go_enter Tryz.func37, Tryz.ntmps37
    go_wp2_with fail
    (go_at_call 76; refine (letter_no _ _ hl).mono ?_; rintro e w1 ⟨rfl, hB⟩)
    go_wp2
    go_returns
    exact ⟨rfl, by first | assumption | go_grown⟩
end Go.Proofs.YtgbhhjdmochhpaaGreatDoor
