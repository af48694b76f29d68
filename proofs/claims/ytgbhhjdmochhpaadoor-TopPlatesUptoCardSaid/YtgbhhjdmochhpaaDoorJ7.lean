/-
  Lemmas of this claim, joined (IdB, MatD, PlY, PlL, PlM, PlE). Conditions: as stated. By an AI agent.
-/
import Derived.Test.YtgbhhjdmochhpaaDoorJ6
import Derived.Test.YtgbhhjdmochhpaaDoorJ4
import Derived.Test.YtgbhhjdmochhpaaDoorJ3
import Derived.Test.YtgbhhjdmochhpaaDoorJ1
import Derived.Test.YtgbhhjdmochhpaaDoorJ2
namespace Go.Proofs.YtgbhhjdmochhpaaDoor
open Go Go.RowKit
set_option linter.unusedVariables false
set_option linter.unusedSimpArgs false

theorem sizes_take : ∀ (l : List ByteArray) (j : Nat), j < l.length → sizes (l.take (j + 1)) = sizes (l.take j) + (l.getD j ⟨#[]⟩).size
  | [], j, h => by simp at h
  | p :: l, 0, _ => by simp [sizes]
  | p :: l, j + 1, h => by
    have := sizes_take l j (by simpa using h)
    simp only [List.take_succ_cons, sizes, List.getD_cons_succ]
    omega
theorem sizes_take_le (l : List ByteArray) (j : Nat) : sizes (l.take j) ≤ sizes l := by
  have := sizes_append (l.take j) (l.drop j)
  rw [List.take_append_drop] at this
  omega
theorem all_of {l : List ByteArray} {f : ByteArray → Bool} (h : ∀ k, k < l.length → f (l.getD k ⟨#[]⟩) = true) : l.all f = true := by
  rw [List.all_eq_true]
  intro x hx
  obtain ⟨k, hk, rfl⟩ := List.mem_iff_getElem.1 hx
  have := h k hk
  rwa [List.getD_eq_getElem?_getD, List.getElem?_eq_getElem hk] at this
theorem not_all {l : List ByteArray} {f : ByteArray → Bool} {k : Nat} (hk : k < l.length) (h : f (l.getD k ⟨#[]⟩) = false) : l.all f = false := by
  cases e : l.all f with
  | false => rfl
  | true =>
    have := List.all_eq_true.1 e (l.getD k ⟨#[]⟩) (by rw [List.getD_eq_getElem?_getD, List.getElem?_eq_getElem hk]; exact List.getElem_mem hk)
    rw [h] at this; cases this

set_option maxHeartbeats 2000000 in
theorem names_any (v : Value) (l : List ByteArray) (w : World) (h : StrsAt w v l) (h1 : 1 ≤ l.length) (hs : sizes l + l.length ≤ 65) :
    Calls Tryd.prog 65 #[v] w fun e w' => e = .returned (.bool (decide (l.length ≤ 8) && l.all nameB)) ∧ Below w.heap.size w w' := by
  obtain ⟨oa, cap, rfl, hlen, hsz, hel⟩ := h.form
  obtain ⟨n, hn⟩ : ∃ n, l.length = n := ⟨_, rfl⟩
  have HEL := Lib.hid hel
  have HSZ := Lib.hid hsz
  have HN := Lib.hid hn
  obtain ⟨S, hS⟩ : ∃ S, sizes l = S := ⟨_, rfl⟩
  have HS := Lib.hid hS
  rw [hn] at h1 hs hlen
  rw [hS] at hs
  obtain ⟨R, hR⟩ : ∃ R, (decide (l.length ≤ 8) && l.all nameB) = R := ⟨_, rfl⟩
  have HR := Lib.hid hR
  rw [hR, hn]
  clear h hel hsz hn hS hR
  go_enter Tryd.func65, Tryd.ntmps65
  go_wp2
  go_loopw [3, 11] (fun b i wr => ∃ (j z : Nat), j ≤ n ∧ z ≤ S ∧ i = .int .i64 j ∧ b = .int .i64 ((n : Int) - 1 + z) ∧ Hid (sizes (l.take j) = z ∧ ∀ k, k < j → nameB (l.getD k ⟨#[]⟩) = true) ∧ Below w.heap.size w wr) (fun _ i _ => n - (intOf i).toNat)
  case atStart => exact ⟨0, 0, by omega, by omega, rfl, by simp, ⟨rfl, fun k hk => by omega⟩, Below.refl _ _⟩
  case round =>
    obtain ⟨j, z, hj, hz, rfl, rfl, hq, hb⟩ := hrel
    have HBr := Lib.hid hb
    by_cases hlt : j < n
    · obtain ⟨b, off, rfl, hbl, hcl⟩ := HEL.out j (by rw [HN.out]; exact hlt)
      obtain ⟨p, hp⟩ : ∃ p, l.getD j ⟨#[]⟩ = p := ⟨_, rfl⟩
      have c0 : wr.cell? ⟨b, off + j, none⟩ = some (.string p) := by rw [← hp]; exact (hb.cell (p := ⟨_, _, none⟩) hbl).trans (hcl j (by rw [HN.out]; exact hlt))
      have hps : p.size ≤ 4294967296 := by rw [← hp]; exact HSZ.out j (by rw [HN.out]; exact hlt)
      have hbr : b < wr.heap.size := by have := hb.size; omega
      have hz2 : z + p.size ≤ S := by
        have h2 := sizes_take l j (by rw [HN.out]; exact hlt)
        rw [hp, hq.out.1] at h2
        have h3 := sizes_take_le l (j + 1)
        rw [HS.out] at h3
        omega
      clear hcl hb
      by_cases hN : nameB p = true
      · have hq2 : Hid (sizes (l.take (j + 1)) = z + p.size ∧ ∀ k, k < j + 1 → nameB (l.getD k ⟨#[]⟩) = true) := by
          refine ⟨?_, fun k hk => ?_⟩
          · rw [sizes_take l j (by rw [HN.out]; exact hlt), hp, hq.out.1]
          · by_cases e : k = j
            · subst e; rw [hp]; exact hN
            · exact hq.out.2 k (by omega)
        clear hp
        go_wp2_with fail
        (go_at_call 79; refine (isName_any _ _ (by omega)).mono ?_; rintro e w1 ⟨rfl, hB⟩)
        rw [hN]
        have HB1 := Lib.hid (below_step HBr.out hB)
        clear hB hN
        go_wp2
        go_roundw
        case rel => exact ⟨j + 1, z + p.size, by omega, by omega, by go_num, by go_num, hq2, HB1.out⟩
        case measure => simp [intOf]; omega
      · have hN : nameB p = false := by simpa using hN
        have hr : R = false := by rw [← HR.out, not_all (by rw [HN.out]; exact hlt) (hp ▸ hN), Bool.and_false]
        have HR0 := Lib.hid hr
        clear hp hr
        go_wp2_with fail
        (go_at_call 79; refine (isName_any _ _ (by omega)).mono ?_; rintro e w1 ⟨rfl, hB⟩)
        rw [hN]
        have HB1 := Lib.hid (below_step HBr.out hB)
        clear hB hN
        go_wp2
        go_returns
        rw [HR0.out]
        exact ⟨rfl, HB1.out⟩
    · have hjn : j = n := by omega
      subst hjn
      have hall : l.all nameB = true := all_of fun k hk => hq.out.2 k (by rw [← HN.out]; exact hk)
      have k9 : decide ((j : Int) - 1 + z ≤ 64) = true := decide_eq_true (by omega)
      have hr : R = decide (j ≤ 8) := by rw [← HR.out, hall, HN.out, Bool.and_true]
      have HR0 := Lib.hid hr
      clear hb hall hr
      by_cases h8 : j ≤ 8
      · have k8 : Hid (decide (j ≤ 8) = true) := decide_eq_true h8
        go_wp2
        go_returns
        rw [HR0.out, k8.out]
        exact ⟨rfl, HBr.out⟩
      · have k8 : Hid (decide (j ≤ 8) = false) := decide_eq_false h8
        go_wp2
        go_returns
        rw [HR0.out, k8.out]
        exact ⟨rfl, HBr.out⟩
theorem strs_new (w : World) (l : List ByteArray) (t : TypeId) (hl : l.length ≤ 4294967296) (hp : ∀ p ∈ l, p.size ≤ 4294967296) : StrsAt (w.alloc (.cells (l.map Value.string).toArray t)) (.slice (some ⟨w.heap.size, 0, none⟩) l.length l.length) l := by
  refine ⟨⟨_, _, rfl, Nat.le_refl _, by omega, fun _ => ⟨_, 0, rfl, by simp, fun i j hi hj => ?_⟩⟩, hl, hp⟩
  have : j = 0 := by omega
  subst this
  simp [go_sem, hi]
theorem mem_sizes : ∀ {l : List ByteArray} {p : ByteArray}, p ∈ l → p.size ≤ sizes l
  | [], _, h => by cases h
  | q :: l, p, h => by
    rcases List.mem_cons.1 h with rfl | h
    · simp [sizes]
    · have := mem_sizes h; simp only [sizes]; omega
set_option maxHeartbeats 2000000 in
theorem isId_any (s : ByteArray) (w : World) (hs : s.size ≤ 9223372036854775807) (hm : MaxLenIs w) :
    Calls Tryd.prog 40 #[.string s] w fun e w' => e = .returned (.bool (idB s)) ∧ Below w.heap.size w w' := by
  have HM := Lib.hid hm
  clear hm
  obtain ⟨R, hR⟩ : ∃ R, idB s = R := ⟨_, rfl⟩
  rw [hR]
  unfold idB at hR
  by_cases h64 : s.size ≤ 64
  · have hR2 : Hid ((decide ((pieces s).length ≤ 8) && (pieces s).all nameB) = R) := by show _ = R; rw [← hR, decide_eq_true h64, Bool.true_and]
    have hz := pieces_sizes s
    have hl1 : 1 ≤ (pieces s).length := (partsR_len s s.size 0 0).1
    have HP : Hid (StrsAt (w.alloc (.cells ((Lib.splitB dot 0 (Lib.countB s dot) s).map Value.string).toArray 9)) (.slice (some ⟨w.heap.size, 0, none⟩) (Lib.countB s dot + 1) (Lib.countB s dot + 1)) (pieces s)) := by
      rw [split_pieces, ← pieces_len]
      exact strs_new _ _ _ (by omega) (fun p hp => by have := mem_sizes hp; omega)
    clear hR
    go_enter Tryd.func40, Tryd.ntmps40
    go_wp2_with fail
    (go_at_call 66; refine (split_any _ _ _ (by omega) HM.out (by decide)).mono ?_; rintro e w1 ⟨rfl, hw1⟩)
    have HP1 : Hid (StrsAt w1 (.slice (some ⟨w.heap.size, 0, none⟩) (Lib.countB s dot + 1) (Lib.countB s dot + 1)) (pieces s)) := by rw [hw1]; exact HP.out
    have hB1 : Below w.heap.size w w1 := by rw [hw1]; exact (Below.refl _ _).alloc (Nat.le_refl _) _
    have HB1 := Lib.hid hB1
    clear hw1 hB1 HP
    go_wp2_with fail
    (go_at_call 65; refine (names_any _ _ _ HP1.out hl1 (by omega)).mono ?_; rintro e w2 ⟨rfl, hB⟩)
    rw [hR2.out]
    have HB2 := Lib.hid (below_step HB1.out hB)
    clear hB
    go_wp2
    go_returns
    exact ⟨rfl, HB2.out⟩
  · have hR2 : Hid (R = false) := by show R = false; rw [← hR, decide_eq_false h64, Bool.false_and, Bool.false_and]
    clear hR
    go_enter Tryd.func40, Tryd.ntmps40
    go_wp2
    go_returns
    rw [hR2.out]
    exact ⟨rfl, by go_grown⟩

theorem info_string : (Tryd.prog.info? 9).map (fun i => (i.zero, i.size, i.bytes)) = some (some (.string ⟨#[]⟩), 1, 16) := by kernel_rfl
set_option maxHeartbeats 4000000 in
theorem parts_any (s : ByteArray) (w : World) (hs : s.size ≤ 2147483648) :
    Calls Tryd.prog 25 #[.string s] w fun e w' => ∃ v, e = .returned v ∧ StrsAt w' v (pieces s) ∧ Below w.heap.size w w' := by
  have hst : Tryd.prog.underlying 9 = some .string := Tryd.underlying9
  obtain ⟨i0, hi, hz0, hz1, hz2⟩ := info_parts info_string
  have HLP : Hid ((pieces s).length ≤ s.size + 1 ∧ ∀ p ∈ pieces s, p.size ≤ s.size + 1) := ⟨(partsR_len s s.size 0 0).2, fun p hp => by have h1 := mem_sizes hp; have h2 := pieces_sizes s; omega⟩
  go_enter Tryd.func25, Tryd.ntmps25
  go_wp2
  go_loopw [3, 4, 5] (fun v f i wr => ∃ (k fr : Nat) (l : List ByteArray), k ≤ s.size + 1 ∧ fr ≤ k ∧ i = .int .i64 k ∧ f = .int .i64 fr ∧ l.length ≤ k ∧ Hid ((k ≤ s.size → l ++ partsR s (s.size - k) fr k = pieces s) ∧ (k = s.size + 1 → l = pieces s)) ∧ wr.ownsRow w.heap.size 9 1 v l.length (l.map Value.string) ∧ Below w.heap.size w wr) (fun _ _ i _ => s.size + 1 - (intOf i).toNat)
  case atStart => exact ⟨0, 0, [], by omega, by omega, rfl, rfl, by simp, ⟨fun _ => rfl, fun h => by omega⟩, World.ownsRow_nil _ _ _ _, Below.refl _ _⟩
  case round =>
    obtain ⟨k, fr, l, hk, hfr, rfl, rfl, hlk, hq, hown, hb⟩ := hrel
    have HBr := Lib.hid hb
    have HO := Lib.hid hown
    clear hb hown
    by_cases hlt : k ≤ s.size
    · have hq1 := hq.out.1 hlt
      have HQ := Lib.hid hq1
      clear hq hq1
      have k1 : IntKind.i64.wrap ((k : Int) + 1) = (k : Int) + 1 := IntWalk.i64_in _ (by omega)
      by_cases he : k = s.size
      · subst he
        have hq2 : l ++ [s.extract fr s.size] = pieces s := by have := HQ.out; rw [Nat.sub_self] at this; exact this
        have HQ2 := Lib.hid hq2
        clear hq2
        go_wp2_with (first | (at_builtin; refine wpList_append_own _ rfl _ _ 70 rfl w.heap.size 9 i0 (.string ⟨#[]⟩) 1 16 Tryd.underlying70 hi hz0 hz1 hz2 rfl (by decide) _ _ _ rfl (HO.out.alloc _) ⟨wr.heap.size, 0, none⟩ 1 1 [(.string (s.extract fr s.size))] rfl rfl ?c1 ?c2 ?c3 ?c4 ?c5 ?_) | go_in)
        case c1 =>
          intro j u hj
          match j, hj with
          | 0, hj =>
            simp at hj
            subst hj
            simp [Addr.add]
            try rfl
        case c2 => intro u hu; simp at hu; subst hu; rfl
        case c3 => unfold maxLen; omega
        case c4 => omega
        case c5 => have := HBr.out.size; simp; omega
        intro v' w7 hown' hgrow _
        have hB7 : Below w.heap.size w w7 := Below.grown (HBr.out.alloc HBr.out.size _) hgrow (by have := HBr.out.size; first | omega | (simp; omega)) (fun q hq => owns_new HO.out q hq)
        have HB7 := Lib.hid hB7
        have HO7 : Hid (w7.ownsRow w.heap.size 9 1 v' (l ++ [s.extract fr s.size]).length ((l ++ [s.extract fr s.size]).map Value.string)) := by
          show w7.ownsRow _ _ _ _ _ _
          rw [List.length_append, List.map_append]
          exact hown'
        clear hown' hgrow hB7
        go_wp2
        go_roundw
        case rel => exact ⟨s.size + 1, s.size + 1, l ++ [s.extract fr s.size], by omega, by omega, by go_num, by go_num, by (simp <;> omega), ⟨fun h => by omega, fun _ => HQ2.out⟩, HO7.out, HB7.out⟩
        case measure => (simp [intOf] <;> omega)
      have hkl : k < s.size := by omega
      have hke : ((k : Int) == s.size) = false := by (simp <;> omega)
      obtain ⟨c, hc⟩ : ∃ c, byteAt s k = c := ⟨_, rfl⟩
      have hix := fun W => index_byte 9 hst s k c hkl hc W
      by_cases hd : c = 46
      · subst hd
        have hq2 : (l ++ [s.extract fr k]) ++ partsR s (s.size - (k + 1)) (k + 1) (k + 1) = pieces s := by
          rw [← HQ.out, show s.size - k = (s.size - (k + 1)) + 1 by omega]
          conv => rhs; unfold partsR
          rw [if_pos hc, List.append_assoc, List.singleton_append]
        have HQ2 := Lib.hid hq2
        clear hq2 hc he
        go_wp2_with (first | (at_builtin; refine wpList_append_own _ rfl _ _ 70 rfl w.heap.size 9 i0 (.string ⟨#[]⟩) 1 16 Tryd.underlying70 hi hz0 hz1 hz2 rfl (by decide) _ _ _ rfl (HO.out.alloc _) ⟨wr.heap.size, 0, none⟩ 1 1 [(.string (s.extract fr k))] rfl rfl ?c1 ?c2 ?c3 ?c4 ?c5 ?_) | go_in)
        case c1 =>
          intro j u hj
          match j, hj with
          | 0, hj =>
            simp at hj
            subst hj
            simp [Addr.add]
            try rfl
        case c2 => intro u hu; simp at hu; subst hu; rfl
        case c3 => unfold maxLen; omega
        case c4 => omega
        case c5 => have := HBr.out.size; simp; omega
        intro v' w7 hown' hgrow _
        have hB7 : Below w.heap.size w w7 := Below.grown (HBr.out.alloc HBr.out.size _) hgrow (by have := HBr.out.size; first | omega | (simp; omega)) (fun q hq => owns_new HO.out q hq)
        have HB7 := Lib.hid hB7
        have HO7 : Hid (w7.ownsRow w.heap.size 9 1 v' (l ++ [s.extract fr k]).length ((l ++ [s.extract fr k]).map Value.string)) := by
          show w7.ownsRow _ _ _ _ _ _
          rw [List.length_append, List.map_append]
          exact hown'
        clear hown' hgrow hB7
        go_wp2
        go_roundw
        case rel => exact ⟨k + 1, k + 1, l ++ [s.extract fr k], by omega, by omega, by go_num, by go_num, by (simp <;> omega), ⟨fun _ => HQ2.out, fun h => by omega⟩, HO7.out, HB7.out⟩
        case measure => simp [intOf]; omega
      · have hq2 : l ++ partsR s (s.size - (k + 1)) fr (k + 1) = pieces s := by
          rw [← HQ.out, show s.size - k = (s.size - (k + 1)) + 1 by omega]
          conv => rhs; unfold partsR
          rw [if_neg (by rw [hc]; exact hd)]
        have HQ2 := Lib.hid hq2
        have hd2 : ((c : Int) == 46) = false := by simp; omega
        clear hq2 hc he hd
        go_wp2
        go_roundw
        case rel => exact ⟨k + 1, fr, l, by omega, by omega, by go_num, rfl, by omega, ⟨fun _ => HQ2.out, fun h => by omega⟩, HO.out, HBr.out⟩
        case measure => simp [intOf]; omega
    · have hq1 := hq.out.2 (by omega)
      have HQ := Lib.hid hq1
      clear hq hq1
      go_wp2
      go_returns
      refine ⟨_, rfl, ?_, HBr.out⟩
      have hl := HLP.out
      rw [← HQ.out] at hl ⊢
      exact ⟨owns_slice HO.out _ (by decide) (fun i j hi hj => by
        have : j = 0 := by omega
        subst this
        simp [hi]), by omega, fun p hp => by have := hl.2 p hp; omega⟩
set_option maxHeartbeats 4000000 in
theorem rIsId_any (s : ByteArray) (w : World) (hs : s.size ≤ 2147483648) :
    Calls Tryd.prog 8 #[.string s] w fun e w' => e = .returned (.bool (idB s)) ∧ Below w.heap.size w w' := by
  obtain ⟨R, hR⟩ : ∃ R, idB s = R := ⟨_, rfl⟩
  have HR : Hid ((decide (s.size ≤ 64) && decide ((pieces s).length ≤ 8) && (pieces s).all nameB) = R) := hR
  rw [hR]
  clear hR
  obtain ⟨l, hl⟩ : ∃ l, pieces s = l := ⟨_, rfl⟩
  rw [hl] at HR
  have HL := Lib.hid hl
  clear hl
  go_enter Tryd.func8, Tryd.ntmps8
  go_wp2_with fail
  (go_at_call 25; refine (parts_any _ _ hs).mono ?_; rintro e w1 ⟨v, rfl, hv, hb⟩)
  rw [HL.out] at hv
  obtain ⟨oa, cap, rfl, hlen, hsz, hel⟩ := hv.form
  obtain ⟨n, hn⟩ : ∃ n, l.length = n := ⟨_, rfl⟩
  rw [hn] at HR hlen
  have HEL := Lib.hid hel
  have HSZ := Lib.hid hsz
  have HN := Lib.hid hn
  have HB1 := Lib.hid hb
  rw [hn]
  clear hv hel hsz hn hb
  by_cases h64 : s.size ≤ 64
  · have k64 : decide (64 < (s.size : Int)) = false := decide_eq_false (by omega)
    by_cases h8 : n ≤ 8
    · have k8 : decide (8 < (n : Int)) = false := decide_eq_false (by omega)
      have HR1 : Hid (l.all nameB = R) := by show _ = R; rw [← HR.out, decide_eq_true h64, decide_eq_true h8]; rfl
      go_wp2
      go_loopw [4] (fun i wr => ∃ j : Nat, j ≤ n ∧ i = .int .i64 j ∧ Hid (∀ k, k < j → nameB (l.getD k ⟨#[]⟩) = true) ∧ Below w1.heap.size w1 wr) (fun i _ => n - (intOf i).toNat)
      case atStart => exact ⟨0, by omega, rfl, fun k hk => by omega, Below.refl _ _⟩
      case round =>
        obtain ⟨j, hj, rfl, hq, hb⟩ := hrel
        have HBr := Lib.hid hb
        by_cases hlt : j < n
        · obtain ⟨b, off, rfl, hbl, hcl⟩ := HEL.out j (by rw [HN.out]; exact hlt)
          obtain ⟨p, hp⟩ : ∃ p, l.getD j ⟨#[]⟩ = p := ⟨_, rfl⟩
          have c0 : wr.cell? ⟨b, off + j, none⟩ = some (.string p) := by rw [← hp]; exact (hb.cell (p := ⟨_, _, none⟩) hbl).trans (hcl j (by rw [HN.out]; exact hlt))
          have hps : p.size ≤ 4294967296 := by rw [← hp]; exact HSZ.out j (by rw [HN.out]; exact hlt)
          have hbr : b < wr.heap.size := by have := hb.size; omega
          clear hcl hb
          by_cases hN : nameB p = true
          · have hq2 : Hid (∀ k, k < j + 1 → nameB (l.getD k ⟨#[]⟩) = true) := fun k hk => by
              by_cases e : k = j
              · subst e; rw [hp]; exact hN
              · exact hq.out k (by omega)
            clear hp
            go_wp2_with fail
            (go_at_call 26; refine (rIsName_any _ _ (by omega)).mono ?_; rintro e w2 ⟨rfl, hB⟩)
            rw [hN]
            have HB2 := Lib.hid (below_step HBr.out hB)
            clear hB hN
            go_wp2
            go_roundw
            case rel => exact ⟨j + 1, by omega, by go_num, hq2, HB2.out⟩
            case measure => simp [intOf]; omega
          · have hN : nameB p = false := by simpa using hN
            have hr : R = false := by rw [← HR1.out, not_all (by rw [HN.out]; exact hlt) (hp ▸ hN)]
            have HR0 := Lib.hid hr
            clear hp hr
            go_wp2_with fail
            (go_at_call 26; refine (rIsName_any _ _ (by omega)).mono ?_; rintro e w2 ⟨rfl, hB⟩)
            rw [hN]
            have HB2 := Lib.hid (below_step HBr.out hB)
            clear hB hN
            go_wp2
            go_returns
            rw [HR0.out]
            exact ⟨rfl, below_step HB1.out HB2.out⟩
        · have hr : R = true := by rw [← HR1.out]; exact all_of fun k hk => hq.out k (by rw [HN.out] at hk; omega)
          have HR0 := Lib.hid hr
          clear hr hb
          go_wp2
          go_returns
          rw [HR0.out]
          exact ⟨rfl, below_step HB1.out HBr.out⟩
    · have k8 : decide (8 < (n : Int)) = true := decide_eq_true (by omega)
      have HR0 : Hid (R = false) := by show R = false; rw [← HR.out, decide_eq_false h8, Bool.and_false, Bool.false_and]
      go_wp2
      go_returns
      rw [HR0.out]
      exact ⟨rfl, HB1.out⟩
  · have k64 : decide (64 < (s.size : Int)) = true := decide_eq_true (by omega)
    have HR0 : Hid (R = false) := by show R = false; rw [← HR.out, decide_eq_false h64, Bool.false_and, Bool.false_and]
    go_wp2
    go_returns
    rw [HR0.out]
    exact ⟨rfl, HB1.out⟩
end Go.Proofs.YtgbhhjdmochhpaaDoor
namespace Go.Proofs.YtgbhhjdmochhpaaDoor
open Go Go.ChangeShapes Go.WideShapes Go.RowKit Go.ChangeAt
set_option linter.unusedVariables false
set_option linter.unusedSimpArgs false
set_option maxRecDepth 100000

theorem rolled_eq (m : Mat) (s : ByteArray) (t : Int) : m.rolled s t = decide (firstIn (m.gf (m.gi s)) (m.gl s) t < m.gl s) := by
  unfold Mat.rolled Mat.gl
  cases h : m.hasG s with
  | false => simp
  | true => simp only [Bool.true_and, if_true]; rfl
set_option maxHeartbeats 4000000 in
theorem rolled_any (v : Value) (m : Mat) (gv : Nat → Value) (s : ByteArray) (t : Int) (w : World) (h : MatAt w v m gv) :
    Calls Tryd.prog 67 #[v, .string s, .int .i64 t] w fun e w' => e = .returned (.bool (m.rolled s t)) ∧ Below w.heap.size w w' := by
  have HM := Lib.hid h
  obtain ⟨vg, vs, rfl, hG, hS, -, -, -⟩ := h
  obtain ⟨oa, ca, rfl, -, -⟩ := hG.form
  obtain ⟨ob, cb, rfl, -, -⟩ := hS.form
  clear hG hS
  obtain ⟨D, hD⟩ : ∃ D, m.hasG s = D := ⟨_, rfl⟩
  have HD := Lib.hid hD
  obtain ⟨L, hL⟩ : ∃ L, m.gl s = L := ⟨_, rfl⟩
  have HL := Lib.hid hL
  obtain ⟨f, hf⟩ : ∃ f, m.gf (m.gi s) = f := ⟨_, rfl⟩
  have HF := Lib.hid hf
  obtain ⟨R, hR⟩ : ∃ R, m.rolled s t = R := ⟨_, rfl⟩
  have HR : Hid (decide (firstIn f L t < L) = R) := by show _ = _; rw [← hR, rolled_eq, hf, hL]
  have HR2 : Hid (D = false → R = false) := fun h0 => by rw [← hR]; unfold Mat.rolled; rw [hD, h0]; rfl
  rw [hR]
  clear hD hL hf hR
  go_enter Tryd.func67, Tryd.ntmps67
  go_wp2_with fail
  (go_at_call 22; refine (grade_any _ m gv s _ (HM.out.below (by go_grown))).mono ?_; rintro e w1 ⟨s', d, y, gv', rfl, -, hI, hB⟩)
  rw [HD.out]
  rw [HL.out, HF.out] at hI
  have HI := Lib.hid hI
  obtain ⟨oc, cc, rfl, -, -⟩ := hI.form
  have HB1 : Hid (Below w.heap.size w w1) := by
    show Below _ _ _
    exact below_step (w := w) (by go_grown) hB
  have hs1 := hB.size
  (try simp only [World.size_alloc, World.size_setCell] at hs1)
  have z1 : w.heap.size < w1.heap.size := by omega
  have hbw1 := HB1.out
  clear hI hB hs1
  cases D with
  | false =>
    have HR3 := Lib.hid (HR2.out rfl)
    go_wp2
    go_returns
    rw [HR3.out]
    exact ⟨rfl, by go_grown⟩
  | true =>
    go_wp2_with fail
    (go_at_call 81; refine (contains_int _ L f t _ (HI.out.below (by go_grown))).mono ?_; rintro e w2 ⟨rfl, hB⟩)
    rw [HR.out]
    have HB2 : Hid (Below w.heap.size w w2) := by
      show Below _ _ _
      exact below_step (w := w) (by first | assumption | go_grown) hB
    clear hB
    go_wp2
    go_returns
    exact ⟨rfl, HB2.out⟩
set_option maxHeartbeats 4000000 in
theorem rrolled_any (v : Value) (m : Mat) (gv : Nat → Value) (s : ByteArray) (t : Int) (w : World) (h : MatAt w v m gv) :
    Calls Tryd.prog 29 #[v, .string s, .int .i64 t] w fun e w' => e = .returned (.bool (m.rolled s t)) ∧ Below w.heap.size w w' := by
  have HM := Lib.hid h
  obtain ⟨vg, vs, rfl, hG, hS, -, -, -⟩ := h
  obtain ⟨oa, ca, rfl, -, -⟩ := hG.form
  obtain ⟨ob, cb, rfl, -, -⟩ := hS.form
  clear hG hS
  obtain ⟨D, hD⟩ : ∃ D, m.hasG s = D := ⟨_, rfl⟩
  have HD := Lib.hid hD
  obtain ⟨L, hL⟩ : ∃ L, m.gl s = L := ⟨_, rfl⟩
  have HL := Lib.hid hL
  obtain ⟨f, hf⟩ : ∃ f, m.gf (m.gi s) = f := ⟨_, rfl⟩
  have HF := Lib.hid hf
  obtain ⟨R, hR⟩ : ∃ R, m.rolled s t = R := ⟨_, rfl⟩
  have HR : Hid (decide (firstFrom (fun j => f j == t) L 0 < L) = R) := by show _ = _; rw [← hR, rolled_eq, hf, hL]; rfl
  obtain ⟨K, hK⟩ : ∃ K, firstFrom (fun j => f j == t) L 0 = K := ⟨_, rfl⟩
  have HK := Lib.hid hK
  rw [hK] at HR
  rw [hR]
  clear hD hL hf hR hK
  go_enter Tryd.func29, Tryd.ntmps29
  go_wp2_with fail
  (go_at_call 28; refine (rgrade_any _ m gv s _ (HM.out.below (by go_grown))).mono ?_; rintro e w1 ⟨s', d, y, gv', rfl, -, hI, hB⟩)
  rw [HD.out]
  rw [HL.out, HF.out] at hI
  have HI := Lib.hid hI
  obtain ⟨oc, cc, rfl, hLb, hel⟩ := hI.form
  have HEL := Lib.hid hel
  have HB1 : Hid (Below w.heap.size w w1) := by
    show Below _ _ _
    exact below_step (w := w) (by go_grown) hB
  have hs1 := hB.size
  (try simp only [World.size_alloc, World.size_setCell] at hs1)
  have z1 : w.heap.size < w1.heap.size := by omega
  have hbw1 := HB1.out
  clear hI hB hs1 hel
  go_wp2
  go_loopw [9] (fun i wr => ∃ j : Nat, j ≤ L ∧ i = .int .i64 j ∧ Hid (firstFrom (fun j => f j == t) (L - j) j = K) ∧ wr.cell? ⟨w1.heap.size, 3, none⟩ = some (.slice oc L cc) ∧ Below w1.heap.size w1 wr ∧ w1.heap.size < wr.heap.size) (fun i _ => L - (intOf i).toNat)
  case atStart => exact ⟨0, by omega, rfl, HK.out, by simp [go_sem], by go_grown, by simp⟩
  case round =>
    obtain ⟨j, hj, rfl, hq, hc3, hB, hsz⟩ := hrel
    have HBr := Lib.hid (below_step HB1.out hB)
    by_cases hlt : j < L
    · obtain ⟨b1, f1, rfl, hbl1, hcl1⟩ := HEL.out j hlt
      have c0 : wr.cell? ⟨b1, f1 + j, none⟩ = some (.int .i64 (f j)) := (hB.cell (p := ⟨_, _, none⟩) hbl1).trans (hcl1 j hlt)
      have hbr : b1 < wr.heap.size := by omega
      have HBB := Lib.hid hB
      clear hcl1 hB
      by_cases h1 : f j = t
      · have hR0 : R = true := by
          have hFj : K = j := hq.out.symm.trans (firstFrom_hit hlt (by simpa using h1))
          rw [← HR.out, hFj]; exact decide_eq_true hlt
        have HR0 := Lib.hid hR0
        have e1 : (f j == t) = true := by simpa using h1
        clear hR0 h1
        go_wp2
        go_returns
        rw [HR0.out]
        exact ⟨rfl, HBr.out⟩
      have hq2 : Hid (firstFrom (fun j => f j == t) (L - (j + 1)) (j + 1) = K) := (firstFrom_miss hlt (by simpa using h1)).symm.trans hq.out
      have e1 : (f j == t) = false := by simpa using h1
      clear h1
      go_wp2
      go_roundw
      case rel => exact ⟨j + 1, by omega, by go_num, hq2, hc3, HBB.out, hsz⟩
      case measure => simp [intOf]; omega
    · have hR0 : R = false := by
        have hFj : K = L := hq.out.symm.trans (firstFrom_end hj hlt)
        rw [← HR.out, hFj]; exact decide_eq_false (by omega)
      have HR0 := Lib.hid hR0
      clear hR0 hB
      go_wp2
      go_returns
      rw [HR0.out]
      exact ⟨rfl, HBr.out⟩

end Go.Proofs.YtgbhhjdmochhpaaDoor
namespace Go.Proofs.YtgbhhjdmochhpaaDoor
open Go Go.ChangeShapes Go.WideShapes Go.RowKit Go.ChangeAt
set_option linter.unusedVariables false
set_option linter.unusedSimpArgs false

theorem cells_at18 {w : World} {b : Nat} {x0 x1 x2 x3 x4 x5 x6 x7 x8 x9 x10 x11 x12 x13 x14 x15 x16 x17 : Value} {t : TypeId} (h : w.heap[b]? = some (.cells #[x0, x1, x2, x3, x4, x5, x6, x7, x8, x9, x10, x11, x12, x13, x14, x15, x16, x17] t)) :
    w.cell? ⟨b, 0, none⟩ = some x0 ∧ w.cell? ⟨b, 1, none⟩ = some x1 ∧ w.cell? ⟨b, 2, none⟩ = some x2 ∧ w.cell? ⟨b, 3, none⟩ = some x3 ∧ w.cell? ⟨b, 4, none⟩ = some x4 ∧ w.cell? ⟨b, 5, none⟩ = some x5 ∧ w.cell? ⟨b, 6, none⟩ = some x6 ∧ w.cell? ⟨b, 7, none⟩ = some x7 ∧ w.cell? ⟨b, 8, none⟩ = some x8 ∧ w.cell? ⟨b, 9, none⟩ = some x9 ∧ w.cell? ⟨b, 10, none⟩ = some x10 ∧ w.cell? ⟨b, 11, none⟩ = some x11 ∧ w.cell? ⟨b, 12, none⟩ = some x12 ∧ w.cell? ⟨b, 13, none⟩ = some x13 ∧ w.cell? ⟨b, 14, none⟩ = some x14 ∧ w.cell? ⟨b, 15, none⟩ = some x15 ∧ w.cell? ⟨b, 16, none⟩ = some x16 ∧ w.cell? ⟨b, 17, none⟩ = some x17 ∧ (∀ i, w.frozen? ⟨b, i, none⟩ = false) ∧ b < w.heap.size :=
  ⟨(cells_at h).1 0 x0 rfl, (cells_at h).1 1 x1 rfl, (cells_at h).1 2 x2 rfl, (cells_at h).1 3 x3 rfl, (cells_at h).1 4 x4 rfl, (cells_at h).1 5 x5 rfl, (cells_at h).1 6 x6 rfl, (cells_at h).1 7 x7 rfl, (cells_at h).1 8 x8 rfl, (cells_at h).1 9 x9 rfl, (cells_at h).1 10 x10 rfl, (cells_at h).1 11 x11 rfl, (cells_at h).1 12 x12 rfl, (cells_at h).1 13 x13 rfl, (cells_at h).1 14 x14 rfl, (cells_at h).1 15 x15 rfl, (cells_at h).1 16 x16 rfl, (cells_at h).1 17 x17 rfl, (cells_at h).2.1, (cells_at h).2.2⟩
theorem part_size : (Tryd.prog.info? 31).map (fun i => i.size) = some 18 := by kernel_rfl
theorem part_under : Tryd.prog.underlying 31 = some (.struct (Tryd.prog.fieldsOf 31)) := by kernel_rfl
theorem neq_vecP (a b c x y z : Int) (W : World) : (binOp .neq 27 (.agg #[.int .i64 a, .int .i64 b, .int .i64 c]) (.agg #[.int .i64 x, .int .i64 y, .int .i64 z])).run Tryd.prog W = .ok (.bool (!decide ((a, b, c) = (x, y, z)))) W := by
  simp only [binOp]
  simp [go_sem, Op.equal, Op.maxDepth]
  split
  · split
    · split <;> simp [*]
    · simp [*]
  · simp [*]
def inB (n lo hi : Int) : Bool := decide (lo ≤ n) && decide (n ≤ hi)
theorem inB_true {n lo hi : Int} (h : inB n lo hi = true) : lo ≤ n ∧ n ≤ hi := by simpa [inB] using h
theorem inB_yes {n lo hi : Int} (h0 : lo ≤ n) (h1 : n ≤ hi) : inB n lo hi = true := by simp [inB, h0, h1]
theorem block_lt {w : World} {b : Nat} {o : Obj} (h : w.heap[b]? = some o) : b < w.heap.size := (Array.getElem?_eq_some_iff.1 h).1
/-- what a plate part is asked for -/
structure PlateOk (id nd g s : ByteArray) (rv th ln ma e1 e2 e3 a1 a2 a3 t : Int) (no : Nat) (P : Nat → Pt) (nh : Nat) (hn : Nat → Nat) (H : Nat → Nat → Pt) (m : Mat) : Prop where
  ok1 : idB id = true
  ok2 : idB nd = true
  rev : 1 ≤ rv ∧ rv ≤ 1000
  sp : s.toList = [] ∧ ln = 0 ∧ ma = 0 ∧ (e1, e2, e3) = ((0 : Int), (0 : Int), (0 : Int))
  gr : m.hasG g = true
  de : 1000 ≤ m.de (m.gi g) ∧ m.de (m.gi g) ≤ 20000
  thk : 1 ≤ th ∧ th ≤ 120
  ro : m.rolled g th = true
  sh : RefReg no P nh hn H
  va : validF (a1, a2, a3) t = true
def spare1B (s : ByteArray) (ln ma e1 e2 e3 : Int) : Bool := !decide (s.toList = [] ∧ ln = 0 ∧ ma = 0 ∧ (e1, e2, e3) = ((0 : Int), (0 : Int), (0 : Int)))
def known1B (m : Mat) (g : ByteArray) (th : Int) : Bool := m.hasG g && (inB (m.de (m.gi g)) 1000 20000 && (inB th 1 120 && m.rolled g th))
theorem rzero_any (oo oq : Option Addr) (no co nh cq : Nat) (w : World) : Calls Tryd.prog 27 #[.agg #[.slice oo no co, .slice oq nh cq]] w fun e w' => e = .returned (.bool (decide (no = 0) && decide (nh = 0))) ∧ Below w.heap.size w w' := by
  by_cases h0 : no = 0
  · subst h0
    by_cases h1 : nh = 0
    · subst h1
      go_enter Tryd.func27, Tryd.ntmps27
      go_wp2
      go_returns
      exact ⟨rfl, by go_grown⟩
    · have k : ((nh : Int) == 0) = false := by simp; omega
      have e : decide (nh = 0) = false := decide_eq_false h1
      rw [e]
      clear e h1
      go_enter Tryd.func27, Tryd.ntmps27
      go_wp2
      go_returns
      exact ⟨rfl, by go_grown⟩
  · have k : ((no : Int) == 0) = false := by simp; omega
    have e : decide (no = 0) = false := decide_eq_false h0
    rw [e]
    clear e h0
    go_enter Tryd.func27, Tryd.ntmps27
    go_wp2
    go_returns
    exact ⟨rfl, by go_grown⟩

set_option maxHeartbeats 8000000 in
set_option maxRecDepth 20000 in
theorem rspare1 (id nd g s : ByteArray) (rv th ln ma e1 e2 e3 a1 a2 a3 t : Int) (oo oq : Option Addr) (no co nh cq : Nat) (w : World) : Calls Tryd.prog 9 #[.agg #[(.string id), (.int .i64 rv), (.int .i64 1), (.string nd), (.string g), (.int .i64 th), (.slice oo no co), (.slice oq nh cq), (.string s), (.int .i64 ln), (.int .i64 ma), (.int .i64 e1), (.int .i64 e2), (.int .i64 e3), (.int .i64 a1), (.int .i64 a2), (.int .i64 a3), (.int .i64 t)]] w fun e w' => e = .returned (.bool (spare1B s ln ma e1 e2 e3)) ∧ Below w.heap.size w w' := by
  have HZ := Lib.hid (rzero_any oo oq no co nh cq)
  obtain ⟨B, hB⟩ : ∃ B, (s.toList == ([] : List UInt8)) = B := ⟨_, rfl⟩
  cases B with
  | false =>
    have hN : Hid (¬ (s.toList = [] ∧ ln = 0 ∧ ma = 0 ∧ (e1, e2, e3) = ((0 : Int), (0 : Int), (0 : Int)))) := fun hh => by have h1 := hh.1; rw [h1] at hB; simp at hB
    by_cases m0 : ma = 0
    · have hM0 := Lib.hid m0
      have km : (ma == 0) = true := by simp [m0]
      have km2 : (ma != 0) = false := by simp [m0]
      clear m0
      have q := fun W => neq_vecP e1 e2 e3 0 0 0 W
      by_cases c0 : (e1, e2, e3) = ((0 : Int), (0 : Int), (0 : Int))
      · have hC0 := Lib.hid c0
        have hd : decide ((e1, e2, e3) = ((0 : Int), (0 : Int), (0 : Int))) = true := decide_eq_true c0
        simp only [hd] at q
        clear hd c0
        by_cases t0 : th = 0
        · subst t0
          have e : spare1B s ln ma e1 e2 e3 = true := by
            unfold spare1B
            rw [decide_eq_false (by exact fun hh => hN.out hh)]; rfl
          rw [e]
          clear e
          go_enter Tryd.func9, Tryd.ntmps9
          go_wp2_with fail
          (go_at_call 27; refine (HZ.out _).mono ?_; rintro e w1 ⟨rfl, hb⟩)
          obtain ⟨c0, c1, c2, c3, c4, c5, c6, c7, c8, c9, c10, c11, c12, c13, c14, c15, c16, c17, cf, cz⟩ := cells_at18 ((hb.block (w.heap.size) (by simp)).trans (heapA_at w _ _ rfl))
          have HB := Lib.hid (below_step (w := w) (by go_grown) hb)
          clear hb
          go_wp2
          go_returns
          exact ⟨rfl, HB.out⟩
        · have kt : (th == 0) = false := by simpa using t0
          have kt2 : (th != 0) = true := by simpa using t0
          clear t0
          have e : spare1B s ln ma e1 e2 e3 = true := by
            unfold spare1B
            rw [decide_eq_false (by exact fun hh => hN.out hh)]; rfl
          rw [e]
          clear e
          go_enter Tryd.func9, Tryd.ntmps9
          go_wp2
          go_returns
          exact ⟨rfl, by go_grown⟩
      · have hd : decide ((e1, e2, e3) = ((0 : Int), (0 : Int), (0 : Int))) = false := decide_eq_false c0
        simp only [hd] at q
        clear hd c0
        by_cases t0 : th = 0
        · subst t0
          have e : spare1B s ln ma e1 e2 e3 = true := by
            unfold spare1B
            rw [decide_eq_false (by exact fun hh => hN.out hh)]; rfl
          rw [e]
          clear e
          go_enter Tryd.func9, Tryd.ntmps9
          go_wp2_with fail
          (go_at_call 27; refine (HZ.out _).mono ?_; rintro e w1 ⟨rfl, hb⟩)
          obtain ⟨c0, c1, c2, c3, c4, c5, c6, c7, c8, c9, c10, c11, c12, c13, c14, c15, c16, c17, cf, cz⟩ := cells_at18 ((hb.block (w.heap.size) (by simp)).trans (heapA_at w _ _ rfl))
          have HB := Lib.hid (below_step (w := w) (by go_grown) hb)
          clear hb
          go_wp2
          go_returns
          exact ⟨rfl, HB.out⟩
        · have kt : (th == 0) = false := by simpa using t0
          have kt2 : (th != 0) = true := by simpa using t0
          clear t0
          have e : spare1B s ln ma e1 e2 e3 = true := by
            unfold spare1B
            rw [decide_eq_false (by exact fun hh => hN.out hh)]; rfl
          rw [e]
          clear e
          go_enter Tryd.func9, Tryd.ntmps9
          go_wp2
          go_returns
          exact ⟨rfl, by go_grown⟩
    · have km : (ma == 0) = false := by simpa using m0
      have km2 : (ma != 0) = true := by simpa using m0
      clear m0
      by_cases t0 : th = 0
      · subst t0
        have e : spare1B s ln ma e1 e2 e3 = true := by
          unfold spare1B
          rw [decide_eq_false (by exact fun hh => hN.out hh)]; rfl
        rw [e]
        clear e
        go_enter Tryd.func9, Tryd.ntmps9
        go_wp2_with fail
        (go_at_call 27; refine (HZ.out _).mono ?_; rintro e w1 ⟨rfl, hb⟩)
        obtain ⟨c0, c1, c2, c3, c4, c5, c6, c7, c8, c9, c10, c11, c12, c13, c14, c15, c16, c17, cf, cz⟩ := cells_at18 ((hb.block (w.heap.size) (by simp)).trans (heapA_at w _ _ rfl))
        have HB := Lib.hid (below_step (w := w) (by go_grown) hb)
        clear hb
        go_wp2
        go_returns
        exact ⟨rfl, HB.out⟩
      · have kt : (th == 0) = false := by simpa using t0
        have kt2 : (th != 0) = true := by simpa using t0
        clear t0
        have e : spare1B s ln ma e1 e2 e3 = true := by
          unfold spare1B
          rw [decide_eq_false (by exact fun hh => hN.out hh)]; rfl
        rw [e]
        clear e
        go_enter Tryd.func9, Tryd.ntmps9
        go_wp2
        go_returns
        exact ⟨rfl, by go_grown⟩
  | true =>
    have hS0 : Hid (s.toList = []) := by show _ = _; simpa using hB
    by_cases l0 : ln = 0
    · have hL0 := Lib.hid l0
      have kl : (ln == 0) = true := by simp [l0]
      have kl2 : (ln != 0) = false := by simp [l0]
      clear l0
      by_cases m0 : ma = 0
      · have hM0 := Lib.hid m0
        have km : (ma == 0) = true := by simp [m0]
        have km2 : (ma != 0) = false := by simp [m0]
        clear m0
        have q := fun W => neq_vecP e1 e2 e3 0 0 0 W
        by_cases c0 : (e1, e2, e3) = ((0 : Int), (0 : Int), (0 : Int))
        · have hC0 := Lib.hid c0
          have hd : decide ((e1, e2, e3) = ((0 : Int), (0 : Int), (0 : Int))) = true := decide_eq_true c0
          simp only [hd] at q
          clear hd c0
          by_cases t0 : th = 0
          · subst t0
            have e : spare1B s ln ma e1 e2 e3 = false := by
              unfold spare1B
              rw [decide_eq_true (by exact ⟨hS0.out, hL0.out, hM0.out, hC0.out⟩)]; rfl
            rw [e]
            clear e
            go_enter Tryd.func9, Tryd.ntmps9
            go_wp2_with fail
            (go_at_call 27; refine (HZ.out _).mono ?_; rintro e w1 ⟨rfl, hb⟩)
            obtain ⟨c0, c1, c2, c3, c4, c5, c6, c7, c8, c9, c10, c11, c12, c13, c14, c15, c16, c17, cf, cz⟩ := cells_at18 ((hb.block (w.heap.size) (by simp)).trans (heapA_at w _ _ rfl))
            have HB := Lib.hid (below_step (w := w) (by go_grown) hb)
            clear hb
            go_wp2
            go_returns
            exact ⟨rfl, HB.out⟩
          · have kt : (th == 0) = false := by simpa using t0
            have kt2 : (th != 0) = true := by simpa using t0
            clear t0
            have e : spare1B s ln ma e1 e2 e3 = false := by
              unfold spare1B
              rw [decide_eq_true (by exact ⟨hS0.out, hL0.out, hM0.out, hC0.out⟩)]; rfl
            rw [e]
            clear e
            go_enter Tryd.func9, Tryd.ntmps9
            go_wp2
            go_returns
            exact ⟨rfl, by go_grown⟩
        · have hd : decide ((e1, e2, e3) = ((0 : Int), (0 : Int), (0 : Int))) = false := decide_eq_false c0
          have hN : Hid (¬ (s.toList = [] ∧ ln = 0 ∧ ma = 0 ∧ (e1, e2, e3) = ((0 : Int), (0 : Int), (0 : Int)))) := fun hh => c0 hh.2.2.2
          simp only [hd] at q
          clear hd c0
          by_cases t0 : th = 0
          · subst t0
            have e : spare1B s ln ma e1 e2 e3 = true := by
              unfold spare1B
              rw [decide_eq_false (by exact fun hh => hN.out hh)]; rfl
            rw [e]
            clear e
            go_enter Tryd.func9, Tryd.ntmps9
            go_wp2_with fail
            (go_at_call 27; refine (HZ.out _).mono ?_; rintro e w1 ⟨rfl, hb⟩)
            obtain ⟨c0, c1, c2, c3, c4, c5, c6, c7, c8, c9, c10, c11, c12, c13, c14, c15, c16, c17, cf, cz⟩ := cells_at18 ((hb.block (w.heap.size) (by simp)).trans (heapA_at w _ _ rfl))
            have HB := Lib.hid (below_step (w := w) (by go_grown) hb)
            clear hb
            go_wp2
            go_returns
            exact ⟨rfl, HB.out⟩
          · have kt : (th == 0) = false := by simpa using t0
            have kt2 : (th != 0) = true := by simpa using t0
            clear t0
            have e : spare1B s ln ma e1 e2 e3 = true := by
              unfold spare1B
              rw [decide_eq_false (by exact fun hh => hN.out hh)]; rfl
            rw [e]
            clear e
            go_enter Tryd.func9, Tryd.ntmps9
            go_wp2
            go_returns
            exact ⟨rfl, by go_grown⟩
      · have hN : Hid (¬ (s.toList = [] ∧ ln = 0 ∧ ma = 0 ∧ (e1, e2, e3) = ((0 : Int), (0 : Int), (0 : Int)))) := fun hh => m0 hh.2.2.1
        have km : (ma == 0) = false := by simpa using m0
        have km2 : (ma != 0) = true := by simpa using m0
        clear m0
        by_cases t0 : th = 0
        · subst t0
          have e : spare1B s ln ma e1 e2 e3 = true := by
            unfold spare1B
            rw [decide_eq_false (by exact fun hh => hN.out hh)]; rfl
          rw [e]
          clear e
          go_enter Tryd.func9, Tryd.ntmps9
          go_wp2_with fail
          (go_at_call 27; refine (HZ.out _).mono ?_; rintro e w1 ⟨rfl, hb⟩)
          obtain ⟨c0, c1, c2, c3, c4, c5, c6, c7, c8, c9, c10, c11, c12, c13, c14, c15, c16, c17, cf, cz⟩ := cells_at18 ((hb.block (w.heap.size) (by simp)).trans (heapA_at w _ _ rfl))
          have HB := Lib.hid (below_step (w := w) (by go_grown) hb)
          clear hb
          go_wp2
          go_returns
          exact ⟨rfl, HB.out⟩
        · have kt : (th == 0) = false := by simpa using t0
          have kt2 : (th != 0) = true := by simpa using t0
          clear t0
          have e : spare1B s ln ma e1 e2 e3 = true := by
            unfold spare1B
            rw [decide_eq_false (by exact fun hh => hN.out hh)]; rfl
          rw [e]
          clear e
          go_enter Tryd.func9, Tryd.ntmps9
          go_wp2
          go_returns
          exact ⟨rfl, by go_grown⟩
    · have hN : Hid (¬ (s.toList = [] ∧ ln = 0 ∧ ma = 0 ∧ (e1, e2, e3) = ((0 : Int), (0 : Int), (0 : Int)))) := fun hh => l0 hh.2.1
      have kl : (ln == 0) = false := by simpa using l0
      have kl2 : (ln != 0) = true := by simpa using l0
      clear l0
      by_cases m0 : ma = 0
      · have hM0 := Lib.hid m0
        have km : (ma == 0) = true := by simp [m0]
        have km2 : (ma != 0) = false := by simp [m0]
        clear m0
        have q := fun W => neq_vecP e1 e2 e3 0 0 0 W
        by_cases c0 : (e1, e2, e3) = ((0 : Int), (0 : Int), (0 : Int))
        · have hC0 := Lib.hid c0
          have hd : decide ((e1, e2, e3) = ((0 : Int), (0 : Int), (0 : Int))) = true := decide_eq_true c0
          simp only [hd] at q
          clear hd c0
          by_cases t0 : th = 0
          · subst t0
            have e : spare1B s ln ma e1 e2 e3 = true := by
              unfold spare1B
              rw [decide_eq_false (by exact fun hh => hN.out hh)]; rfl
            rw [e]
            clear e
            go_enter Tryd.func9, Tryd.ntmps9
            go_wp2_with fail
            (go_at_call 27; refine (HZ.out _).mono ?_; rintro e w1 ⟨rfl, hb⟩)
            obtain ⟨c0, c1, c2, c3, c4, c5, c6, c7, c8, c9, c10, c11, c12, c13, c14, c15, c16, c17, cf, cz⟩ := cells_at18 ((hb.block (w.heap.size) (by simp)).trans (heapA_at w _ _ rfl))
            have HB := Lib.hid (below_step (w := w) (by go_grown) hb)
            clear hb
            go_wp2
            go_returns
            exact ⟨rfl, HB.out⟩
          · have kt : (th == 0) = false := by simpa using t0
            have kt2 : (th != 0) = true := by simpa using t0
            clear t0
            have e : spare1B s ln ma e1 e2 e3 = true := by
              unfold spare1B
              rw [decide_eq_false (by exact fun hh => hN.out hh)]; rfl
            rw [e]
            clear e
            go_enter Tryd.func9, Tryd.ntmps9
            go_wp2
            go_returns
            exact ⟨rfl, by go_grown⟩
        · have hd : decide ((e1, e2, e3) = ((0 : Int), (0 : Int), (0 : Int))) = false := decide_eq_false c0
          simp only [hd] at q
          clear hd c0
          by_cases t0 : th = 0
          · subst t0
            have e : spare1B s ln ma e1 e2 e3 = true := by
              unfold spare1B
              rw [decide_eq_false (by exact fun hh => hN.out hh)]; rfl
            rw [e]
            clear e
            go_enter Tryd.func9, Tryd.ntmps9
            go_wp2_with fail
            (go_at_call 27; refine (HZ.out _).mono ?_; rintro e w1 ⟨rfl, hb⟩)
            obtain ⟨c0, c1, c2, c3, c4, c5, c6, c7, c8, c9, c10, c11, c12, c13, c14, c15, c16, c17, cf, cz⟩ := cells_at18 ((hb.block (w.heap.size) (by simp)).trans (heapA_at w _ _ rfl))
            have HB := Lib.hid (below_step (w := w) (by go_grown) hb)
            clear hb
            go_wp2
            go_returns
            exact ⟨rfl, HB.out⟩
          · have kt : (th == 0) = false := by simpa using t0
            have kt2 : (th != 0) = true := by simpa using t0
            clear t0
            have e : spare1B s ln ma e1 e2 e3 = true := by
              unfold spare1B
              rw [decide_eq_false (by exact fun hh => hN.out hh)]; rfl
            rw [e]
            clear e
            go_enter Tryd.func9, Tryd.ntmps9
            go_wp2
            go_returns
            exact ⟨rfl, by go_grown⟩
      · have km : (ma == 0) = false := by simpa using m0
        have km2 : (ma != 0) = true := by simpa using m0
        clear m0
        by_cases t0 : th = 0
        · subst t0
          have e : spare1B s ln ma e1 e2 e3 = true := by
            unfold spare1B
            rw [decide_eq_false (by exact fun hh => hN.out hh)]; rfl
          rw [e]
          clear e
          go_enter Tryd.func9, Tryd.ntmps9
          go_wp2_with fail
          (go_at_call 27; refine (HZ.out _).mono ?_; rintro e w1 ⟨rfl, hb⟩)
          obtain ⟨c0, c1, c2, c3, c4, c5, c6, c7, c8, c9, c10, c11, c12, c13, c14, c15, c16, c17, cf, cz⟩ := cells_at18 ((hb.block (w.heap.size) (by simp)).trans (heapA_at w _ _ rfl))
          have HB := Lib.hid (below_step (w := w) (by go_grown) hb)
          clear hb
          go_wp2
          go_returns
          exact ⟨rfl, HB.out⟩
        · have kt : (th == 0) = false := by simpa using t0
          have kt2 : (th != 0) = true := by simpa using t0
          clear t0
          have e : spare1B s ln ma e1 e2 e3 = true := by
            unfold spare1B
            rw [decide_eq_false (by exact fun hh => hN.out hh)]; rfl
          rw [e]
          clear e
          go_enter Tryd.func9, Tryd.ntmps9
          go_wp2
          go_returns
          exact ⟨rfl, by go_grown⟩

set_option maxHeartbeats 8000000 in
set_option maxRecDepth 20000 in
theorem rknown1 (v : Value) (m : Mat) (gv : Nat → Value) (id nd g s : ByteArray) (rv th ln ma e1 e2 e3 a1 a2 a3 t : Int) (oo oq : Option Addr) (no co nh cq : Nat) (w : World) (hm : MatAt w v m gv) : Calls Tryd.prog 10 #[.agg #[(.string id), (.int .i64 rv), (.int .i64 1), (.string nd), (.string g), (.int .i64 th), (.slice oo no co), (.slice oq nh cq), (.string s), (.int .i64 ln), (.int .i64 ma), (.int .i64 e1), (.int .i64 e2), (.int .i64 e3), (.int .i64 a1), (.int .i64 a2), (.int .i64 a3), (.int .i64 t)], v] w fun e w' => e = .returned (.bool (known1B m g th)) ∧ Below w.heap.size w w' := by
  have HM := Lib.hid hm
  obtain ⟨vg, vs, rfl, hG, hS, -, -, -⟩ := hm
  obtain ⟨og, cg, rfl, -, -⟩ := hG.form
  obtain ⟨os', cs', rfl, -, -⟩ := hS.form
  clear hG hS
  unfold known1B
  obtain ⟨G, hG⟩ : ∃ b, m.hasG g = b := ⟨_, rfl⟩
  have HG := Lib.hid hG
  rw [hG]
  clear hG
  cases G with
  | false =>
    rw [Bool.false_and]
    go_enter Tryd.func10, Tryd.ntmps10
    go_wp2_with fail
    obtain ⟨w0, hw0⟩ : ∃ X, ((w.alloc (.cells #[(.string id), (.int .i64 rv), (.int .i64 1), (.string nd), (.string g), (.int .i64 th), (.slice oo no co), (.slice oq nh cq), (.string s), (.int .i64 ln), (.int .i64 ma), (.int .i64 e1), (.int .i64 e2), (.int .i64 e3), (.int .i64 a1), (.int .i64 a2), (.int .i64 a3), (.int .i64 t)] 31)).alloc (.cells #[.slice og m.ng cg, .slice os' m.ns cs'] 35)) = X := ⟨_, rfl⟩
    have HQP : Hid (w0.heap[w.heap.size]? = some (.cells #[(.string id), (.int .i64 rv), (.int .i64 1), (.string nd), (.string g), (.int .i64 th), (.slice oo no co), (.slice oq nh cq), (.string s), (.int .i64 ln), (.int .i64 ma), (.int .i64 e1), (.int .i64 e2), (.int .i64 e3), (.int .i64 a1), (.int .i64 a2), (.int .i64 a3), (.int .i64 t)] 31)) := by
      show _ = _
      rw [← hw0]
      exact (heapA_old _ _ _ (by simp)).trans (heapA_at _ _ _ rfl)
    have HQM : Hid (w0.heap[(w.heap.size + 1)]? = some (.cells #[.slice og m.ng cg, .slice os' m.ns cs'] 35)) := by
      show _ = _
      rw [← hw0]
      exact heapA_at _ _ _ (by simp)
    have hBw0 : Below w.heap.size w w0 := by rw [← hw0]; exact (((Below.refl w.heap.size w).alloc (Nat.le_refl _) _).alloc (by simp) _)
    rw [hw0]
    clear hw0
    replace HM := Lib.hid (HM.out.below hBw0)
    obtain ⟨c0, c1, c2, c3, c4, c5, c6, c7, c8, c9, c10, c11, c12, c13, c14, c15, c16, c17, cf, cz⟩ := cells_at18 HQP.out
    obtain ⟨d0, d1, df, dz⟩ := cells_at2 HQM.out
    (go_at_call 28; refine (rgrade_any _ m gv g _ (HM.out.below (by first | exact Below.refl _ _ | (show Below w0.heap.size w0 _; go_grown)))).mono ?_; rintro e_ w1 ⟨s1, d1', y1, gv', rfl, hd1, hi, hb⟩)
    have hPw1 : Below w0.heap.size w0 w1 := below_step (w := w0) (by first | exact Below.refl _ _ | go_grown) hb
    have hBw1 : Below w.heap.size w w1 := below_step hBw0 hPw1
    replace HM := Lib.hid (HM.out.below hPw1)
    have HQP2 : Hid (w1.heap[w.heap.size]? = some (.cells #[(.string id), (.int .i64 rv), (.int .i64 1), (.string nd), (.string g), (.int .i64 th), (.slice oo no co), (.slice oq nh cq), (.string s), (.int .i64 ln), (.int .i64 ma), (.int .i64 e1), (.int .i64 e2), (.int .i64 e3), (.int .i64 a1), (.int .i64 a2), (.int .i64 a3), (.int .i64 t)] 31)) := (hPw1.block _ (block_lt HQP.out)).trans HQP.out
    have HQM2 : Hid (w1.heap[(w.heap.size + 1)]? = some (.cells #[.slice og m.ng cg, .slice os' m.ns cs'] 35)) := (hPw1.block _ (block_lt HQM.out)).trans HQM.out
    clear HQP HQM
    have HQP := HQP2
    have HQM := HQM2
    clear HQP2 HQM2
    obtain ⟨o2, c2', rfl, -, -⟩ := hi.form
    rw [HG.out]
    clear hi hd1
    clear c0 c1 c2 c3 c4 c5 c6 c7 c8 c9 c10 c11 c12 c13 c14 c15 c16 c17 cf cz d0 d1 df dz
    clear hb hPw1 hBw0
    obtain ⟨c0, c1, c2, c3, c4, c5, c6, c7, c8, c9, c10, c11, c12, c13, c14, c15, c16, c17, cf, cz⟩ := cells_at18 HQP.out
    obtain ⟨d0, d1, df, dz⟩ := cells_at2 HQM.out
    go_wp2
    go_returns
    exact ⟨rfl, by go_grown⟩
  | true =>
    rw [Bool.true_and]
    obtain ⟨D, hD⟩ : ∃ d, m.de (m.gi g) = d := ⟨_, rfl⟩
    have HD := Lib.hid hD
    rw [hD]
    clear hD
    unfold inB
    by_cases h1 : D < 1000
    · have e1' : decide ((1000 : Int) ≤ D) = false := decide_eq_false (by omega)
      have e2' : decide (D < 1000) = true := decide_eq_true h1
      rw [e1']
      simp only [Bool.false_and]
      clear h1 e1'
      go_enter Tryd.func10, Tryd.ntmps10
      go_wp2_with fail
      obtain ⟨w0, hw0⟩ : ∃ X, ((w.alloc (.cells #[(.string id), (.int .i64 rv), (.int .i64 1), (.string nd), (.string g), (.int .i64 th), (.slice oo no co), (.slice oq nh cq), (.string s), (.int .i64 ln), (.int .i64 ma), (.int .i64 e1), (.int .i64 e2), (.int .i64 e3), (.int .i64 a1), (.int .i64 a2), (.int .i64 a3), (.int .i64 t)] 31)).alloc (.cells #[.slice og m.ng cg, .slice os' m.ns cs'] 35)) = X := ⟨_, rfl⟩
      have HQP : Hid (w0.heap[w.heap.size]? = some (.cells #[(.string id), (.int .i64 rv), (.int .i64 1), (.string nd), (.string g), (.int .i64 th), (.slice oo no co), (.slice oq nh cq), (.string s), (.int .i64 ln), (.int .i64 ma), (.int .i64 e1), (.int .i64 e2), (.int .i64 e3), (.int .i64 a1), (.int .i64 a2), (.int .i64 a3), (.int .i64 t)] 31)) := by
        show _ = _
        rw [← hw0]
        exact (heapA_old _ _ _ (by simp)).trans (heapA_at _ _ _ rfl)
      have HQM : Hid (w0.heap[(w.heap.size + 1)]? = some (.cells #[.slice og m.ng cg, .slice os' m.ns cs'] 35)) := by
        show _ = _
        rw [← hw0]
        exact heapA_at _ _ _ (by simp)
      have hBw0 : Below w.heap.size w w0 := by rw [← hw0]; exact (((Below.refl w.heap.size w).alloc (Nat.le_refl _) _).alloc (by simp) _)
      rw [hw0]
      clear hw0
      replace HM := Lib.hid (HM.out.below hBw0)
      obtain ⟨c0, c1, c2, c3, c4, c5, c6, c7, c8, c9, c10, c11, c12, c13, c14, c15, c16, c17, cf, cz⟩ := cells_at18 HQP.out
      obtain ⟨d0, d1, df, dz⟩ := cells_at2 HQM.out
      (go_at_call 28; refine (rgrade_any _ m gv g _ (HM.out.below (by first | exact Below.refl _ _ | (show Below w0.heap.size w0 _; go_grown)))).mono ?_; rintro e_ w1 ⟨s1, d1', y1, gv', rfl, hd1, hi, hb⟩)
      have hPw1 : Below w0.heap.size w0 w1 := below_step (w := w0) (by first | exact Below.refl _ _ | go_grown) hb
      have hBw1 : Below w.heap.size w w1 := below_step hBw0 hPw1
      replace HM := Lib.hid (HM.out.below hPw1)
      have HQP2 : Hid (w1.heap[w.heap.size]? = some (.cells #[(.string id), (.int .i64 rv), (.int .i64 1), (.string nd), (.string g), (.int .i64 th), (.slice oo no co), (.slice oq nh cq), (.string s), (.int .i64 ln), (.int .i64 ma), (.int .i64 e1), (.int .i64 e2), (.int .i64 e3), (.int .i64 a1), (.int .i64 a2), (.int .i64 a3), (.int .i64 t)] 31)) := (hPw1.block _ (block_lt HQP.out)).trans HQP.out
      have HQM2 : Hid (w1.heap[(w.heap.size + 1)]? = some (.cells #[.slice og m.ng cg, .slice os' m.ns cs'] 35)) := (hPw1.block _ (block_lt HQM.out)).trans HQM.out
      clear HQP HQM
      have HQP := HQP2
      have HQM := HQM2
      clear HQP2 HQM2
      obtain ⟨o2, c2', rfl, -, -⟩ := hi.form
      rw [HG.out]
      obtain rfl : D = d1' := HD.out.symm.trans (hd1 HG.out).symm
      clear hi hd1
      clear c0 c1 c2 c3 c4 c5 c6 c7 c8 c9 c10 c11 c12 c13 c14 c15 c16 c17 cf cz d0 d1 df dz
      clear hb hPw1 hBw0
      obtain ⟨c0, c1, c2, c3, c4, c5, c6, c7, c8, c9, c10, c11, c12, c13, c14, c15, c16, c17, cf, cz⟩ := cells_at18 HQP.out
      obtain ⟨d0, d1, df, dz⟩ := cells_at2 HQM.out
      go_wp2
      go_returns
      exact ⟨rfl, by go_grown⟩
    have f1 : decide ((1000 : Int) ≤ D) = true := decide_eq_true (by omega)
    have f2 : decide (D < 1000) = false := decide_eq_false h1
    rw [f1]
    clear f1 h1
    by_cases h2 : 20000 < D
    · have e1' : decide (D ≤ 20000) = false := decide_eq_false (by omega)
      have e2' : decide ((20000 : Int) < D) = true := decide_eq_true h2
      rw [e1']
      simp only [Bool.and_false, Bool.false_and]
      clear h2 e1'
      go_enter Tryd.func10, Tryd.ntmps10
      go_wp2_with fail
      obtain ⟨w0, hw0⟩ : ∃ X, ((w.alloc (.cells #[(.string id), (.int .i64 rv), (.int .i64 1), (.string nd), (.string g), (.int .i64 th), (.slice oo no co), (.slice oq nh cq), (.string s), (.int .i64 ln), (.int .i64 ma), (.int .i64 e1), (.int .i64 e2), (.int .i64 e3), (.int .i64 a1), (.int .i64 a2), (.int .i64 a3), (.int .i64 t)] 31)).alloc (.cells #[.slice og m.ng cg, .slice os' m.ns cs'] 35)) = X := ⟨_, rfl⟩
      have HQP : Hid (w0.heap[w.heap.size]? = some (.cells #[(.string id), (.int .i64 rv), (.int .i64 1), (.string nd), (.string g), (.int .i64 th), (.slice oo no co), (.slice oq nh cq), (.string s), (.int .i64 ln), (.int .i64 ma), (.int .i64 e1), (.int .i64 e2), (.int .i64 e3), (.int .i64 a1), (.int .i64 a2), (.int .i64 a3), (.int .i64 t)] 31)) := by
        show _ = _
        rw [← hw0]
        exact (heapA_old _ _ _ (by simp)).trans (heapA_at _ _ _ rfl)
      have HQM : Hid (w0.heap[(w.heap.size + 1)]? = some (.cells #[.slice og m.ng cg, .slice os' m.ns cs'] 35)) := by
        show _ = _
        rw [← hw0]
        exact heapA_at _ _ _ (by simp)
      have hBw0 : Below w.heap.size w w0 := by rw [← hw0]; exact (((Below.refl w.heap.size w).alloc (Nat.le_refl _) _).alloc (by simp) _)
      rw [hw0]
      clear hw0
      replace HM := Lib.hid (HM.out.below hBw0)
      obtain ⟨c0, c1, c2, c3, c4, c5, c6, c7, c8, c9, c10, c11, c12, c13, c14, c15, c16, c17, cf, cz⟩ := cells_at18 HQP.out
      obtain ⟨d0, d1, df, dz⟩ := cells_at2 HQM.out
      (go_at_call 28; refine (rgrade_any _ m gv g _ (HM.out.below (by first | exact Below.refl _ _ | (show Below w0.heap.size w0 _; go_grown)))).mono ?_; rintro e_ w1 ⟨s1, d1', y1, gv', rfl, hd1, hi, hb⟩)
      have hPw1 : Below w0.heap.size w0 w1 := below_step (w := w0) (by first | exact Below.refl _ _ | go_grown) hb
      have hBw1 : Below w.heap.size w w1 := below_step hBw0 hPw1
      replace HM := Lib.hid (HM.out.below hPw1)
      have HQP2 : Hid (w1.heap[w.heap.size]? = some (.cells #[(.string id), (.int .i64 rv), (.int .i64 1), (.string nd), (.string g), (.int .i64 th), (.slice oo no co), (.slice oq nh cq), (.string s), (.int .i64 ln), (.int .i64 ma), (.int .i64 e1), (.int .i64 e2), (.int .i64 e3), (.int .i64 a1), (.int .i64 a2), (.int .i64 a3), (.int .i64 t)] 31)) := (hPw1.block _ (block_lt HQP.out)).trans HQP.out
      have HQM2 : Hid (w1.heap[(w.heap.size + 1)]? = some (.cells #[.slice og m.ng cg, .slice os' m.ns cs'] 35)) := (hPw1.block _ (block_lt HQM.out)).trans HQM.out
      clear HQP HQM
      have HQP := HQP2
      have HQM := HQM2
      clear HQP2 HQM2
      obtain ⟨o2, c2', rfl, -, -⟩ := hi.form
      rw [HG.out]
      obtain rfl : D = d1' := HD.out.symm.trans (hd1 HG.out).symm
      clear hi hd1
      clear c0 c1 c2 c3 c4 c5 c6 c7 c8 c9 c10 c11 c12 c13 c14 c15 c16 c17 cf cz d0 d1 df dz
      clear hb hPw1 hBw0
      obtain ⟨c0, c1, c2, c3, c4, c5, c6, c7, c8, c9, c10, c11, c12, c13, c14, c15, c16, c17, cf, cz⟩ := cells_at18 HQP.out
      obtain ⟨d0, d1, df, dz⟩ := cells_at2 HQM.out
      go_wp2
      go_returns
      exact ⟨rfl, by go_grown⟩
    have f3 : decide (D ≤ 20000) = true := decide_eq_true (by omega)
    have f4 : decide ((20000 : Int) < D) = false := decide_eq_false h2
    rw [f3]
    clear f3 h2
    simp only [Bool.true_and]
    by_cases r0 : (1 : Int) ≤ th
    rotate_left
    · have k0 : decide ((1 : Int) ≤ th) = false := decide_eq_false r0
      rw [k0]
      (try simp only [Bool.false_and, Bool.and_false, Bool.true_and])
      clear r0
      go_enter Tryd.func10, Tryd.ntmps10
      go_wp2_with fail
      obtain ⟨w0, hw0⟩ : ∃ X, ((w.alloc (.cells #[(.string id), (.int .i64 rv), (.int .i64 1), (.string nd), (.string g), (.int .i64 th), (.slice oo no co), (.slice oq nh cq), (.string s), (.int .i64 ln), (.int .i64 ma), (.int .i64 e1), (.int .i64 e2), (.int .i64 e3), (.int .i64 a1), (.int .i64 a2), (.int .i64 a3), (.int .i64 t)] 31)).alloc (.cells #[.slice og m.ng cg, .slice os' m.ns cs'] 35)) = X := ⟨_, rfl⟩
      have HQP : Hid (w0.heap[w.heap.size]? = some (.cells #[(.string id), (.int .i64 rv), (.int .i64 1), (.string nd), (.string g), (.int .i64 th), (.slice oo no co), (.slice oq nh cq), (.string s), (.int .i64 ln), (.int .i64 ma), (.int .i64 e1), (.int .i64 e2), (.int .i64 e3), (.int .i64 a1), (.int .i64 a2), (.int .i64 a3), (.int .i64 t)] 31)) := by
        show _ = _
        rw [← hw0]
        exact (heapA_old _ _ _ (by simp)).trans (heapA_at _ _ _ rfl)
      have HQM : Hid (w0.heap[(w.heap.size + 1)]? = some (.cells #[.slice og m.ng cg, .slice os' m.ns cs'] 35)) := by
        show _ = _
        rw [← hw0]
        exact heapA_at _ _ _ (by simp)
      have hBw0 : Below w.heap.size w w0 := by rw [← hw0]; exact (((Below.refl w.heap.size w).alloc (Nat.le_refl _) _).alloc (by simp) _)
      rw [hw0]
      clear hw0
      replace HM := Lib.hid (HM.out.below hBw0)
      obtain ⟨c0, c1, c2, c3, c4, c5, c6, c7, c8, c9, c10, c11, c12, c13, c14, c15, c16, c17, cf, cz⟩ := cells_at18 HQP.out
      obtain ⟨d0, d1, df, dz⟩ := cells_at2 HQM.out
      (go_at_call 28; refine (rgrade_any _ m gv g _ (HM.out.below (by first | exact Below.refl _ _ | (show Below w0.heap.size w0 _; go_grown)))).mono ?_; rintro e_ w1 ⟨s1, d1', y1, gv', rfl, hd1, hi, hb⟩)
      have hPw1 : Below w0.heap.size w0 w1 := below_step (w := w0) (by first | exact Below.refl _ _ | go_grown) hb
      have hBw1 : Below w.heap.size w w1 := below_step hBw0 hPw1
      replace HM := Lib.hid (HM.out.below hPw1)
      have HQP2 : Hid (w1.heap[w.heap.size]? = some (.cells #[(.string id), (.int .i64 rv), (.int .i64 1), (.string nd), (.string g), (.int .i64 th), (.slice oo no co), (.slice oq nh cq), (.string s), (.int .i64 ln), (.int .i64 ma), (.int .i64 e1), (.int .i64 e2), (.int .i64 e3), (.int .i64 a1), (.int .i64 a2), (.int .i64 a3), (.int .i64 t)] 31)) := (hPw1.block _ (block_lt HQP.out)).trans HQP.out
      have HQM2 : Hid (w1.heap[(w.heap.size + 1)]? = some (.cells #[.slice og m.ng cg, .slice os' m.ns cs'] 35)) := (hPw1.block _ (block_lt HQM.out)).trans HQM.out
      clear HQP HQM
      have HQP := HQP2
      have HQM := HQM2
      clear HQP2 HQM2
      obtain ⟨o2, c2', rfl, -, -⟩ := hi.form
      rw [HG.out]
      obtain rfl : D = d1' := HD.out.symm.trans (hd1 HG.out).symm
      clear hi hd1
      clear c0 c1 c2 c3 c4 c5 c6 c7 c8 c9 c10 c11 c12 c13 c14 c15 c16 c17 cf cz d0 d1 df dz
      clear hb hPw1 hBw0
      obtain ⟨c0, c1, c2, c3, c4, c5, c6, c7, c8, c9, c10, c11, c12, c13, c14, c15, c16, c17, cf, cz⟩ := cells_at18 HQP.out
      obtain ⟨d0, d1, df, dz⟩ := cells_at2 HQM.out
      go_wp2
      go_returns
      exact ⟨rfl, by go_grown⟩
    have k0 : decide ((1 : Int) ≤ th) = true := decide_eq_true r0
    rw [k0]
    (try simp only [Bool.true_and, Bool.and_true])
    clear r0
    by_cases r1 : th ≤ 120
    rotate_left
    · have k1 : decide (th ≤ 120) = false := decide_eq_false r1
      rw [k1]
      (try simp only [Bool.false_and, Bool.and_false, Bool.true_and])
      clear r1
      go_enter Tryd.func10, Tryd.ntmps10
      go_wp2_with fail
      obtain ⟨w0, hw0⟩ : ∃ X, ((w.alloc (.cells #[(.string id), (.int .i64 rv), (.int .i64 1), (.string nd), (.string g), (.int .i64 th), (.slice oo no co), (.slice oq nh cq), (.string s), (.int .i64 ln), (.int .i64 ma), (.int .i64 e1), (.int .i64 e2), (.int .i64 e3), (.int .i64 a1), (.int .i64 a2), (.int .i64 a3), (.int .i64 t)] 31)).alloc (.cells #[.slice og m.ng cg, .slice os' m.ns cs'] 35)) = X := ⟨_, rfl⟩
      have HQP : Hid (w0.heap[w.heap.size]? = some (.cells #[(.string id), (.int .i64 rv), (.int .i64 1), (.string nd), (.string g), (.int .i64 th), (.slice oo no co), (.slice oq nh cq), (.string s), (.int .i64 ln), (.int .i64 ma), (.int .i64 e1), (.int .i64 e2), (.int .i64 e3), (.int .i64 a1), (.int .i64 a2), (.int .i64 a3), (.int .i64 t)] 31)) := by
        show _ = _
        rw [← hw0]
        exact (heapA_old _ _ _ (by simp)).trans (heapA_at _ _ _ rfl)
      have HQM : Hid (w0.heap[(w.heap.size + 1)]? = some (.cells #[.slice og m.ng cg, .slice os' m.ns cs'] 35)) := by
        show _ = _
        rw [← hw0]
        exact heapA_at _ _ _ (by simp)
      have hBw0 : Below w.heap.size w w0 := by rw [← hw0]; exact (((Below.refl w.heap.size w).alloc (Nat.le_refl _) _).alloc (by simp) _)
      rw [hw0]
      clear hw0
      replace HM := Lib.hid (HM.out.below hBw0)
      obtain ⟨c0, c1, c2, c3, c4, c5, c6, c7, c8, c9, c10, c11, c12, c13, c14, c15, c16, c17, cf, cz⟩ := cells_at18 HQP.out
      obtain ⟨d0, d1, df, dz⟩ := cells_at2 HQM.out
      (go_at_call 28; refine (rgrade_any _ m gv g _ (HM.out.below (by first | exact Below.refl _ _ | (show Below w0.heap.size w0 _; go_grown)))).mono ?_; rintro e_ w1 ⟨s1, d1', y1, gv', rfl, hd1, hi, hb⟩)
      have hPw1 : Below w0.heap.size w0 w1 := below_step (w := w0) (by first | exact Below.refl _ _ | go_grown) hb
      have hBw1 : Below w.heap.size w w1 := below_step hBw0 hPw1
      replace HM := Lib.hid (HM.out.below hPw1)
      have HQP2 : Hid (w1.heap[w.heap.size]? = some (.cells #[(.string id), (.int .i64 rv), (.int .i64 1), (.string nd), (.string g), (.int .i64 th), (.slice oo no co), (.slice oq nh cq), (.string s), (.int .i64 ln), (.int .i64 ma), (.int .i64 e1), (.int .i64 e2), (.int .i64 e3), (.int .i64 a1), (.int .i64 a2), (.int .i64 a3), (.int .i64 t)] 31)) := (hPw1.block _ (block_lt HQP.out)).trans HQP.out
      have HQM2 : Hid (w1.heap[(w.heap.size + 1)]? = some (.cells #[.slice og m.ng cg, .slice os' m.ns cs'] 35)) := (hPw1.block _ (block_lt HQM.out)).trans HQM.out
      clear HQP HQM
      have HQP := HQP2
      have HQM := HQM2
      clear HQP2 HQM2
      obtain ⟨o2, c2', rfl, -, -⟩ := hi.form
      rw [HG.out]
      obtain rfl : D = d1' := HD.out.symm.trans (hd1 HG.out).symm
      clear hi hd1
      clear c0 c1 c2 c3 c4 c5 c6 c7 c8 c9 c10 c11 c12 c13 c14 c15 c16 c17 cf cz d0 d1 df dz
      clear hb hPw1 hBw0
      obtain ⟨c0, c1, c2, c3, c4, c5, c6, c7, c8, c9, c10, c11, c12, c13, c14, c15, c16, c17, cf, cz⟩ := cells_at18 HQP.out
      obtain ⟨d0, d1, df, dz⟩ := cells_at2 HQM.out
      go_wp2
      go_returns
      exact ⟨rfl, by go_grown⟩
    have k1 : decide (th ≤ 120) = true := decide_eq_true r1
    rw [k1]
    (try simp only [Bool.true_and, Bool.and_true])
    clear r1
    obtain ⟨RB, hRB⟩ : ∃ b, m.rolled g th = b := ⟨_, rfl⟩
    have HRO : Hid (∀ W v', MatAt W v' m gv → Calls Tryd.prog 29 #[v', .string g, .int .i64 th] W fun e w' => e = .returned (.bool RB) ∧ Below W.heap.size W w') := fun W v' h => by rw [← hRB]; exact rrolled_any v' m gv g th W h
    rw [hRB]
    clear hRB
    go_enter Tryd.func10, Tryd.ntmps10
    go_wp2_with fail
    obtain ⟨w0, hw0⟩ : ∃ X, ((w.alloc (.cells #[(.string id), (.int .i64 rv), (.int .i64 1), (.string nd), (.string g), (.int .i64 th), (.slice oo no co), (.slice oq nh cq), (.string s), (.int .i64 ln), (.int .i64 ma), (.int .i64 e1), (.int .i64 e2), (.int .i64 e3), (.int .i64 a1), (.int .i64 a2), (.int .i64 a3), (.int .i64 t)] 31)).alloc (.cells #[.slice og m.ng cg, .slice os' m.ns cs'] 35)) = X := ⟨_, rfl⟩
    have HQP : Hid (w0.heap[w.heap.size]? = some (.cells #[(.string id), (.int .i64 rv), (.int .i64 1), (.string nd), (.string g), (.int .i64 th), (.slice oo no co), (.slice oq nh cq), (.string s), (.int .i64 ln), (.int .i64 ma), (.int .i64 e1), (.int .i64 e2), (.int .i64 e3), (.int .i64 a1), (.int .i64 a2), (.int .i64 a3), (.int .i64 t)] 31)) := by
      show _ = _
      rw [← hw0]
      exact (heapA_old _ _ _ (by simp)).trans (heapA_at _ _ _ rfl)
    have HQM : Hid (w0.heap[(w.heap.size + 1)]? = some (.cells #[.slice og m.ng cg, .slice os' m.ns cs'] 35)) := by
      show _ = _
      rw [← hw0]
      exact heapA_at _ _ _ (by simp)
    have hBw0 : Below w.heap.size w w0 := by rw [← hw0]; exact (((Below.refl w.heap.size w).alloc (Nat.le_refl _) _).alloc (by simp) _)
    rw [hw0]
    clear hw0
    replace HM := Lib.hid (HM.out.below hBw0)
    obtain ⟨c0, c1, c2, c3, c4, c5, c6, c7, c8, c9, c10, c11, c12, c13, c14, c15, c16, c17, cf, cz⟩ := cells_at18 HQP.out
    obtain ⟨d0, d1, df, dz⟩ := cells_at2 HQM.out
    (go_at_call 28; refine (rgrade_any _ m gv g _ (HM.out.below (by first | exact Below.refl _ _ | (show Below w0.heap.size w0 _; go_grown)))).mono ?_; rintro e_ w1 ⟨s1, d1', y1, gv', rfl, hd1, hi, hb⟩)
    have hPw1 : Below w0.heap.size w0 w1 := below_step (w := w0) (by first | exact Below.refl _ _ | go_grown) hb
    have hBw1 : Below w.heap.size w w1 := below_step hBw0 hPw1
    replace HM := Lib.hid (HM.out.below hPw1)
    have HQP2 : Hid (w1.heap[w.heap.size]? = some (.cells #[(.string id), (.int .i64 rv), (.int .i64 1), (.string nd), (.string g), (.int .i64 th), (.slice oo no co), (.slice oq nh cq), (.string s), (.int .i64 ln), (.int .i64 ma), (.int .i64 e1), (.int .i64 e2), (.int .i64 e3), (.int .i64 a1), (.int .i64 a2), (.int .i64 a3), (.int .i64 t)] 31)) := (hPw1.block _ (block_lt HQP.out)).trans HQP.out
    have HQM2 : Hid (w1.heap[(w.heap.size + 1)]? = some (.cells #[.slice og m.ng cg, .slice os' m.ns cs'] 35)) := (hPw1.block _ (block_lt HQM.out)).trans HQM.out
    clear HQP HQM
    have HQP := HQP2
    have HQM := HQM2
    clear HQP2 HQM2
    obtain ⟨o2, c2', rfl, -, -⟩ := hi.form
    rw [HG.out]
    obtain rfl : D = d1' := HD.out.symm.trans (hd1 HG.out).symm
    clear hi hd1
    clear c0 c1 c2 c3 c4 c5 c6 c7 c8 c9 c10 c11 c12 c13 c14 c15 c16 c17 cf cz d0 d1 df dz
    clear hb hPw1 hBw0
    obtain ⟨c0, c1, c2, c3, c4, c5, c6, c7, c8, c9, c10, c11, c12, c13, c14, c15, c16, c17, cf, cz⟩ := cells_at18 HQP.out
    obtain ⟨d0, d1, df, dz⟩ := cells_at2 HQM.out
    go_wp2_with fail
    (go_at_call 29; refine (HRO.out _ _ (HM.out.below (by first | exact Below.refl _ _ | (show Below w1.heap.size w1 _; go_grown)))).mono ?_; rintro e_ w2 ⟨rfl, hb⟩)
    have hPw2 : Below w1.heap.size w1 w2 := below_step (w := w1) (by first | exact Below.refl _ _ | go_grown) hb
    have hBw2 : Below w.heap.size w w2 := below_step hBw1 hPw2
    replace HM := Lib.hid (HM.out.below hPw2)
    have HQP2 : Hid (w2.heap[w.heap.size]? = some (.cells #[(.string id), (.int .i64 rv), (.int .i64 1), (.string nd), (.string g), (.int .i64 th), (.slice oo no co), (.slice oq nh cq), (.string s), (.int .i64 ln), (.int .i64 ma), (.int .i64 e1), (.int .i64 e2), (.int .i64 e3), (.int .i64 a1), (.int .i64 a2), (.int .i64 a3), (.int .i64 t)] 31)) := (hPw2.block _ (block_lt HQP.out)).trans HQP.out
    have HQM2 : Hid (w2.heap[(w.heap.size + 1)]? = some (.cells #[.slice og m.ng cg, .slice os' m.ns cs'] 35)) := (hPw2.block _ (block_lt HQM.out)).trans HQM.out
    clear HQP HQM
    have HQP := HQP2
    have HQM := HQM2
    clear HQP2 HQM2
    clear c0 c1 c2 c3 c4 c5 c6 c7 c8 c9 c10 c11 c12 c13 c14 c15 c16 c17 cf cz d0 d1 df dz
    clear hb hPw2 hBw1
    obtain ⟨c0, c1, c2, c3, c4, c5, c6, c7, c8, c9, c10, c11, c12, c13, c14, c15, c16, c17, cf, cz⟩ := cells_at18 HQP.out
    obtain ⟨d0, d1, df, dz⟩ := cells_at2 HQM.out
    go_wp2
    go_returns
    exact ⟨rfl, by go_grown⟩
end Go.Proofs.YtgbhhjdmochhpaaDoor
namespace Go.Proofs.YtgbhhjdmochhpaaDoor
open Go Go.ChangeShapes Go.WideShapes Go.RowKit Go.ChangeAt
set_option linter.unusedVariables false
set_option linter.unusedSimpArgs false

set_option maxHeartbeats 1000000 in
theorem checkP_ok (v : Value) (n : Nat) (P : Nat → Pt) (w : World) (h : PtsAt w v n P) (hp : Hid (Pol 32768 n P)) (hn32 : n ≤ 32) (ha : area2 n P ≠ 0) :
    Calls Tryd.prog 36 #[v] w fun e w' => e = .returned (.int .i64 0) ∧ Below w.heap.size w w' := by
  have hnr : Hid (∀ i, i < n → nearB 32768 (P i) = true) := fun i hi => nearB_iff.2 (by have := hp.out.nr i hi; omega)
  have hall : (!allTo (fun i => nearB 32768 (P i)) n) = false := by rw [allTo_iff.2 hnr.out]; rfl
  have HF : Hid (∀ W v', PtsAt W v' n P → Calls Tryd.prog 16 #[v', .func (.func 59) #[] #[]] W (fun e w' => e = .returned (.bool false) ∧ Below W.heap.size W w')) := fun W v' h' => by rw [← hall]; exact containsFarP v' n P W h'
  obtain ⟨oa, cap, rfl, hn, hc, -⟩ := h.form
  have H := Lib.hid h
  have n3 := hp.out.n3
  obtain ⟨Z, hZ⟩ : ∃ e, area2 n P = e := ⟨_, rfl⟩
  have HA : Hid (∀ W, PtsAt W (.slice oa n cap) n P → Calls Tryd.prog 39 #[.slice oa n cap] W (fun e w' => e = .returned (.int .i64 Z) ∧ Below W.heap.size W w')) := fun W h' => by rw [← hZ]; exact areaP_any _ n P W h' (by omega) hnr
  rw [hZ] at ha
  clear h hZ hall
  have k1 : decide ((n : Int) < 3) = false := decide_eq_false (by omega)
  have k2 : decide ((32 : Int) < (n : Int)) = false := decide_eq_false (by omega)
  have k3 : (Z == 0) = false := by simp [ha]
  go_enter Tryd.func36, Tryd.ntmps36
  go_wp2_with fail
  (go_at_call 16; refine (HF.out _ _ H.out).mono ?_; rintro e_ w1 ⟨rfl, hb1⟩)
  have h1 := Lib.hid (H.out.below hb1)
  go_wp2_with fail
  (go_at_call 60; refine (simpleP_yes _ n P _ h1.out hp hn32).mono ?_; rintro e_ w2 ⟨rfl, hb2⟩)
  have h2 := Lib.hid (h1.out.below hb2)
  go_wp2_with fail
  (go_at_call 39; refine (HA.out _ h2.out).mono ?_; rintro e_ w3 ⟨rfl, hb3⟩)
  have HB := Lib.hid (below_step (below_step hb1 hb2) hb3)
  go_wp2
  go_returns
  exact ⟨rfl, HB.out⟩
theorem area2P_ok (v : Value) (n : Nat) (P : Nat → Pt) (w : World) (h : PtsAt w v n P) (hp : Hid (Pol 32768 n P)) (hn32 : n ≤ 32) (ha : area2 n P ≠ 0) :
    Calls Tryd.prog 20 #[v] w fun e w' => e = .returned (.int .i64 (area2 n P)) ∧ Below w.heap.size w w' := by
  have hnr : Hid (∀ i, i < n → nearB 32768 (P i) = true) := fun i hi => nearB_iff.2 (by have := hp.out.nr i hi; omega)
  obtain ⟨oa, cap, rfl, hn, hc, -⟩ := h.form
  have H := Lib.hid h
  have n3 := hp.out.n3
  obtain ⟨Z, hZ⟩ : ∃ e, area2 n P = e := ⟨_, rfl⟩
  have HA : Hid (∀ W, PtsAt W (.slice oa n cap) n P → Calls Tryd.prog 39 #[.slice oa n cap] W (fun e w' => e = .returned (.int .i64 Z) ∧ Below W.heap.size W w')) := fun W h' => by rw [← hZ]; exact areaP_any _ n P W h' (by omega) hnr
  have HK : Hid (∀ W, PtsAt W (.slice oa n cap) n P → Calls Tryd.prog 36 #[.slice oa n cap] W (fun e w' => e = .returned (.int .i64 0) ∧ Below W.heap.size W w')) := fun W h' => checkP_ok _ n P W h' hp hn32 ha
  rw [hZ]
  clear h hZ ha
  go_enter Tryd.func20, Tryd.ntmps20
  go_wp2_with fail
  (go_at_call 36; refine (HK.out _ H.out).mono ?_; rintro e_ w1 ⟨rfl, hb1⟩)
  have h1 := Lib.hid (H.out.below hb1)
  go_wp2_with fail
  (go_at_call 39; refine (HA.out _ h1.out).mono ?_; rintro e_ w2 ⟨rfl, hb2⟩)
  have HB := Lib.hid (below_step hb1 hb2)
  go_wp2
  go_returns
  exact ⟨rfl, HB.out⟩
end Go.Proofs.YtgbhhjdmochhpaaDoor
namespace Go.Proofs.YtgbhhjdmochhpaaDoor
open Go Go.ChangeShapes Go.WideShapes Go.RowKit Go.ChangeAt
set_option linter.unusedVariables false
set_option linter.unusedSimpArgs false

set_option maxHeartbeats 4000000 in
set_option maxRecDepth 20000 in
theorem whereP_off (v : Value) (n : Nat) (P : Nat → Pt) (q1 q2 : Int) (w : World) (h : PtsAt w v n P) (hp : Hid (Pol 32768 n P)) (hn32 : n ≤ 32) (ha : area2 n P ≠ 0) (hq : nearB 32768 (q1, q2) = true) (hoff : Hid (Off n P (q1, q2))) :
    Calls Tryd.prog 64 #[v, .agg #[.int .i64 q1, .int .i64 q2]] w fun e w' => e = .returned (.int .i64 (if par n P (q1, q2) = true then 1 else -1)) ∧ Below w.heap.size w w' := by
  have hnr : Hid (∀ i, i < n → nearB 32768 (P i) = true) := fun i hi => nearB_iff.2 (by have := hp.out.nr i hi; omega)
  have hqr : Hid (Nr (q1, q2)) := near_nr hq
  have HF : Hid (∀ W, Calls Tryd.prog 59 #[.agg #[.int .i64 q1, .int .i64 q2]] W (fun e w' => e = .returned (.bool false) ∧ Below W.heap.size W w')) := fun W => by have := farP_any q1 q2 W; rw [hq] at this; exact this
  obtain ⟨oa, cap, rfl, hn, hc, hel⟩ := h.form
  have HEL := Lib.hid hel
  have H := Lib.hid h
  have n3 := hp.out.n3
  have HK : Hid (∀ W, PtsAt W (.slice oa n cap) n P → Calls Tryd.prog 36 #[.slice oa n cap] W (fun e w' => e = .returned (.int .i64 0) ∧ Below W.heap.size W w')) := fun W h' => checkP_ok _ n P W h' hp hn32 ha
  obtain ⟨R, hR⟩ : ∃ e, par n P (q1, q2) = e := ⟨_, rfl⟩
  have HRR := Lib.hid hR
  rw [hR]
  obtain ⟨Z, hZ⟩ : ∃ e : Int, (if R = true then 1 else -1) = e := ⟨_, rfl⟩
  have HZ := Lib.hid hZ
  rw [hZ]
  clear h hel ha hR hq hZ
  go_enter Tryd.func64, Tryd.ntmps64
  go_wp2_with fail
  (go_at_call 59; refine (HF.out _).mono ?_; rintro e_ w4 ⟨rfl, hb4⟩)
  have HB4 := Lib.hid (below_step (w := w) (by go_grown) hb4)
  have hQ4 : Hid (w4.heap[w.heap.size]? = some (.cells #[.int .i64 q1, .int .i64 q2] 37)) := (hb4.block w.heap.size (by simp)).trans (heapA_at _ _ _ rfl)
  have zw4 := hb4.size
  (try simp only [World.size_alloc] at zw4)
  clear hb4
  go_wp2_with fail
  (go_at_call 36; refine (HK.out _ (H.out.below HB4.out)).mono ?_; rintro e_ w5 ⟨rfl, hb5⟩)
  have HB5 := Lib.hid (below_step HB4.out hb5)
  have hQ5 : Hid (w5.heap[w.heap.size]? = some (.cells #[.int .i64 q1, .int .i64 q2] 37)) := (hb5.block w.heap.size (by omega)).trans hQ4.out
  have zw5 : w.heap.size < w5.heap.size := by have := hb5.size; omega
  clear hb5
  go_wp2
  go_loopw [5, 19] (fun t i wr => ∃ (j : Nat) (bx : Bool), j ≤ n ∧ i = .int .i64 j ∧ t = .bool bx ∧ Hid (bx = xorTo (fun i => ray (P i) (P (nx n i)) (q1, q2)) j) ∧ w.heap.size < wr.heap.size ∧ Hid (wr.heap[w.heap.size]? = some (.cells #[.int .i64 q1, .int .i64 q2] 37)) ∧ Below w.heap.size w wr) (fun t i _ => n - (intOf i).toNat)
  case atStart => exact ⟨0, false, by omega, rfl, rfl, rfl, zw5, hQ5, HB5.out⟩
  case round =>
    obtain ⟨w1, rfl⟩ : ∃ x : World, x = wr := ⟨_, rfl⟩
    obtain ⟨j, bx, hj, rfl, rfl, hx, zw, hQ, hB1⟩ := hrel
    have HB1 := Lib.hid hB1
    clear hB1
    by_cases hlt : j < n
    · obtain ⟨J1, hJ1⟩ : ∃ e, (j : Int) + 1 = e := ⟨_, rfl⟩
      obtain ⟨q, hq⟩ : ∃ q, nx n j = q := ⟨_, rfl⟩
      have qn : q < n := by rw [← hq]; exact nx_lt (by omega)
      have i1 : IntKind.i64.wrap ((j : Int) + 1) = J1 := by rw [hJ1]; exact IntWalk.i64_in _ (by omega)
      have i2 : J1.tmod (n : Int) = (q : Int) := by rw [← hJ1, ← hq]; exact nx_mod hlt
      have i3 : IntKind.i64.wrap (q : Int) = (q : Int) := IntWalk.i64_in _ (by omega)
      have i4 : ((n : Int) == 0) = false := by simp; omega
      have i0 : ¬ n = 0 := by omega
      have i5 : (0 : Int) ≤ (q : Int) := by omega
      have i6 : (q : Int) < (n : Int) := by omega
      have i7 : IntKind.i64.wrap (J1.tmod (n : Int)) = (q : Int) := by rw [i2]; exact i3
      have HJ1 := Lib.hid hJ1
      have Hq := Lib.hid hq
      have i8 : (0 : Int) ≤ (j : Int) := by omega
      have i9 : (j : Int) < (n : Int) := by omega
      clear hJ1 hq
      obtain ⟨bk1, f1, rfl, hbl1, hcl1⟩ := HEL.out j hlt
      have hB1 := HB1.out
      have pa0 : w1.cell? ⟨bk1, f1 + j * 2, none⟩ = some (.int .i64 (P j).1) := (hB1.cell (p := ⟨_, _, none⟩) hbl1).trans (hcl1 j hlt).1
      have pa1 : w1.cell? ⟨bk1, f1 + j * 2 + 1, none⟩ = some (.int .i64 (P j).2) := (hB1.cell (p := ⟨_, _, none⟩) hbl1).trans (hcl1 j hlt).2
      have pb0 : w1.cell? ⟨bk1, f1 + q * 2, none⟩ = some (.int .i64 (P q).1) := (hB1.cell (p := ⟨_, _, none⟩) hbl1).trans (hcl1 q qn).1
      have pb1 : w1.cell? ⟨bk1, f1 + q * 2 + 1, none⟩ = some (.int .i64 (P q).2) := (hB1.cell (p := ⟨_, _, none⟩) hbl1).trans (hcl1 q qn).2
      have zb0 : bk1 < w1.heap.size := by have := hB1.size; omega
      clear hcl1 hB1
      have HN := Lib.hid (near_nr (hnr.out j hlt))
      have HNq := Lib.hid (near_nr (hnr.out q qn))
      have HON : Hid (decide (onS (P j) (P q) (q1, q2)) = false) := decide_eq_false (by have := hoff.out j hlt; rw [Hq.out] at this; exact this)
      have HO : Hid (∀ W, Calls Tryd.prog 78 #[.agg #[.int .i64 (P j).1, .int .i64 (P j).2], .agg #[.int .i64 (P q).1, .int .i64 (P q).2], .agg #[.int .i64 q1, .int .i64 q2]] W (fun e w' => e = .returned (.bool false) ∧ Below W.heap.size W w')) := fun W => by rw [← HON.out]; exact onP_any _ _ _ _ _ _ W HN.out HNq.out hqr.out
      have HC : Hid (∀ W, Calls Tryd.prog 73 #[.agg #[.int .i64 (P j).1, .int .i64 (P j).2], .agg #[.int .i64 (P q).1, .int .i64 (P q).2], .agg #[.int .i64 q1, .int .i64 q2]] W (fun e w' => e = .returned (.int .i64 (crs ((P j).1, (P j).2) ((P q).1, (P q).2) (q1, q2))) ∧ Below W.heap.size W w')) := fun W => crsP_any _ _ _ _ _ _ W HN.out HNq.out hqr.out
      obtain ⟨RY, hRY⟩ : ∃ e, ray (P j) (P (nx n j)) (q1, q2) = e := ⟨_, rfl⟩
      have HR := Lib.hid hRY
      have HR0 : Hid (ray ((P j).1, (P j).2) ((P q).1, (P q).2) (q1, q2) = RY) := by rw [Hq.out] at hRY; exact hRY
      clear hRY HON HN HNq
      obtain ⟨a1, ha1⟩ : ∃ e, (P j).1 = e := ⟨_, rfl⟩
      obtain ⟨a2, ha2⟩ : ∃ e, (P j).2 = e := ⟨_, rfl⟩
      obtain ⟨b1, hb1⟩ : ∃ e, (P q).1 = e := ⟨_, rfl⟩
      obtain ⟨b2, hb2⟩ : ∃ e, (P q).2 = e := ⟨_, rfl⟩
      rw [ha1, ha2, hb1, hb2] at HC HO HR0
      rw [ha1] at pa0
      rw [ha2] at pa1
      rw [hb1] at pb0
      rw [hb2] at pb1
      clear ha1 ha2 hb1 hb2
      obtain ⟨C, hC⟩ : ∃ e, crs (a1, a2) (b1, b2) (q1, q2) = e := ⟨_, rfl⟩
      rw [hC] at HC
      have HCC := Lib.hid hC
      clear hC
      obtain ⟨uQ, vQ, xQ, yQ⟩ := cells_at2 hQ.out
      by_cases h1 : q2 < a2
      · by_cases h2 : q2 < b2
        · have k1 : decide (q2 < a2) = true := decide_eq_true h1
          have k2 : decide (q2 < b2) = true := decide_eq_true h2
          have hR0 : RY = false := by rw [← HR0.out]; unfold ray; dsimp only; rw [k1, k2]; rfl
          go_wp2_with fail
          (go_at_call 78; refine (HO.out _).mono ?_; rintro e_ w2 ⟨rfl, hb2⟩)
          have KQ : w2.heap[w.heap.size]? = some (.cells #[.int .i64 q1, .int .i64 q2] 37) := (hb2.block (w.heap.size) (by first | omega | (simp; done) | (simp <;> omega))).trans ((heapA_old _ _ _ (by simp <;> omega)).trans ((heapA_old _ _ _ (by omega)).trans hQ.out))
          obtain ⟨uQ2, vQ2, xQ2, yQ2⟩ := cells_at2 KQ
          have HKQ2 := Lib.hid KQ
          clear KQ
          have KX : w2.heap[w1.heap.size]? = some (.cells #[.int .i64 a1, .int .i64 a2] 37) := (hb2.block (w1.heap.size) (by first | omega | (simp; done) | (simp <;> omega))).trans ((heapA_old _ _ _ (by simp)).trans (heapA_at _ _ _ rfl))
          obtain ⟨uX2, vX2, xX2, yX2⟩ := cells_at2 KX
          have HKX2 := Lib.hid KX
          clear KX
          have KY : w2.heap[w1.heap.size + 1]? = some (.cells #[.int .i64 b1, .int .i64 b2] 37) := (hb2.block (w1.heap.size + 1) (by first | omega | (simp; done) | (simp <;> omega))).trans (heapA_at _ _ _ (by simp))
          obtain ⟨uY2, vY2, xY2, yY2⟩ := cells_at2 KY
          have HKY2 := Lib.hid KY
          clear KY
          have HB2 := Lib.hid (below_step (w := w) (by have hB := HB1.out; have hz := hB.size; go_grown) hb2)
          have zw2 := hb2.size
          (try simp only [World.size_alloc] at zw2)
          clear hb2
          have hq2 : Hid (bx = xorTo (fun i => ray (P i) (P (nx n i)) (q1, q2)) (j + 1)) := by
            show _ = _
            unfold xorTo
            rw [← hx.out, HR.out, hR0]
            (cases bx <;> rfl)
          go_wp2
          go_roundw
          case rel => exact ⟨j + 1, bx, by omega, by rw [← HJ1.out]; rfl, by cases bx <;> rfl, hq2, by omega, HKQ2.out, HB2.out⟩
          case measure => have := HJ1.out; simp [intOf]; omega
        · have k1 : decide (q2 < a2) = true := decide_eq_true h1
          have k2 : decide (q2 < b2) = false := decide_eq_false h2
          have k3 : decide (a2 < b2) = false := decide_eq_false (by omega)
          by_cases h3 : 0 < C
          · have k4 : decide (0 < C) = true := decide_eq_true h3
            have hR0 : RY = false := by rw [← HR0.out]; unfold ray; dsimp only; rw [k1, k2, k3, HCC.out, k4]; rfl
            go_wp2_with fail
            (go_at_call 78; refine (HO.out _).mono ?_; rintro e_ w2 ⟨rfl, hb2⟩)
            have KQ : w2.heap[w.heap.size]? = some (.cells #[.int .i64 q1, .int .i64 q2] 37) := (hb2.block (w.heap.size) (by first | omega | (simp; done) | (simp <;> omega))).trans ((heapA_old _ _ _ (by simp <;> omega)).trans ((heapA_old _ _ _ (by omega)).trans hQ.out))
            obtain ⟨uQ2, vQ2, xQ2, yQ2⟩ := cells_at2 KQ
            have HKQ2 := Lib.hid KQ
            clear KQ
            have KX : w2.heap[w1.heap.size]? = some (.cells #[.int .i64 a1, .int .i64 a2] 37) := (hb2.block (w1.heap.size) (by first | omega | (simp; done) | (simp <;> omega))).trans ((heapA_old _ _ _ (by simp)).trans (heapA_at _ _ _ rfl))
            obtain ⟨uX2, vX2, xX2, yX2⟩ := cells_at2 KX
            have HKX2 := Lib.hid KX
            clear KX
            have KY : w2.heap[w1.heap.size + 1]? = some (.cells #[.int .i64 b1, .int .i64 b2] 37) := (hb2.block (w1.heap.size + 1) (by first | omega | (simp; done) | (simp <;> omega))).trans (heapA_at _ _ _ (by simp))
            obtain ⟨uY2, vY2, xY2, yY2⟩ := cells_at2 KY
            have HKY2 := Lib.hid KY
            clear KY
            have HB2 := Lib.hid (below_step (w := w) (by have hB := HB1.out; have hz := hB.size; go_grown) hb2)
            have zw2 := hb2.size
            (try simp only [World.size_alloc] at zw2)
            clear hb2
            go_wp2_with fail
            (go_at_call 73; refine (HC.out _).mono ?_; rintro e_ w3 ⟨rfl, hb3⟩)
            have KQ : w3.heap[w.heap.size]? = some (.cells #[.int .i64 q1, .int .i64 q2] 37) := (hb3.block (w.heap.size) (by first | omega | (simp; done) | (simp <;> omega))).trans HKQ2.out
            obtain ⟨uQ3, vQ3, xQ3, yQ3⟩ := cells_at2 KQ
            have HKQ3 := Lib.hid KQ
            clear KQ
            have KX : w3.heap[w1.heap.size]? = some (.cells #[.int .i64 a1, .int .i64 a2] 37) := (hb3.block (w1.heap.size) (by first | omega | (simp; done) | (simp <;> omega))).trans HKX2.out
            obtain ⟨uX3, vX3, xX3, yX3⟩ := cells_at2 KX
            have HKX3 := Lib.hid KX
            clear KX
            have KY : w3.heap[w1.heap.size + 1]? = some (.cells #[.int .i64 b1, .int .i64 b2] 37) := (hb3.block (w1.heap.size + 1) (by first | omega | (simp; done) | (simp <;> omega))).trans HKY2.out
            obtain ⟨uY3, vY3, xY3, yY3⟩ := cells_at2 KY
            have HKY3 := Lib.hid KY
            clear KY
            have HB3 := Lib.hid (below_step HB2.out hb3)
            have zw3 := hb3.size
            clear hb3 uQ2 vQ2 xQ2 yQ2 uX2 vX2 xX2 yX2 uY2 vY2 xY2 yY2
            have hq2 : Hid (bx = xorTo (fun i => ray (P i) (P (nx n i)) (q1, q2)) (j + 1)) := by
              show _ = _
              unfold xorTo
              rw [← hx.out, HR.out, hR0]
              (cases bx <;> rfl)
            go_wp2
            go_roundw
            case rel => exact ⟨j + 1, bx, by omega, by rw [← HJ1.out]; rfl, by cases bx <;> rfl, hq2, by omega, HKQ3.out, HB3.out⟩
            case measure => have := HJ1.out; simp [intOf]; omega
          · have k4 : decide (0 < C) = false := decide_eq_false h3
            have hR0 : RY = true := by rw [← HR0.out]; unfold ray; dsimp only; rw [k1, k2, k3, HCC.out, k4]; rfl
            go_wp2_with fail
            (go_at_call 78; refine (HO.out _).mono ?_; rintro e_ w2 ⟨rfl, hb2⟩)
            have KQ : w2.heap[w.heap.size]? = some (.cells #[.int .i64 q1, .int .i64 q2] 37) := (hb2.block (w.heap.size) (by first | omega | (simp; done) | (simp <;> omega))).trans ((heapA_old _ _ _ (by simp <;> omega)).trans ((heapA_old _ _ _ (by omega)).trans hQ.out))
            obtain ⟨uQ2, vQ2, xQ2, yQ2⟩ := cells_at2 KQ
            have HKQ2 := Lib.hid KQ
            clear KQ
            have KX : w2.heap[w1.heap.size]? = some (.cells #[.int .i64 a1, .int .i64 a2] 37) := (hb2.block (w1.heap.size) (by first | omega | (simp; done) | (simp <;> omega))).trans ((heapA_old _ _ _ (by simp)).trans (heapA_at _ _ _ rfl))
            obtain ⟨uX2, vX2, xX2, yX2⟩ := cells_at2 KX
            have HKX2 := Lib.hid KX
            clear KX
            have KY : w2.heap[w1.heap.size + 1]? = some (.cells #[.int .i64 b1, .int .i64 b2] 37) := (hb2.block (w1.heap.size + 1) (by first | omega | (simp; done) | (simp <;> omega))).trans (heapA_at _ _ _ (by simp))
            obtain ⟨uY2, vY2, xY2, yY2⟩ := cells_at2 KY
            have HKY2 := Lib.hid KY
            clear KY
            have HB2 := Lib.hid (below_step (w := w) (by have hB := HB1.out; have hz := hB.size; go_grown) hb2)
            have zw2 := hb2.size
            (try simp only [World.size_alloc] at zw2)
            clear hb2
            go_wp2_with fail
            (go_at_call 73; refine (HC.out _).mono ?_; rintro e_ w3 ⟨rfl, hb3⟩)
            have KQ : w3.heap[w.heap.size]? = some (.cells #[.int .i64 q1, .int .i64 q2] 37) := (hb3.block (w.heap.size) (by first | omega | (simp; done) | (simp <;> omega))).trans HKQ2.out
            obtain ⟨uQ3, vQ3, xQ3, yQ3⟩ := cells_at2 KQ
            have HKQ3 := Lib.hid KQ
            clear KQ
            have KX : w3.heap[w1.heap.size]? = some (.cells #[.int .i64 a1, .int .i64 a2] 37) := (hb3.block (w1.heap.size) (by first | omega | (simp; done) | (simp <;> omega))).trans HKX2.out
            obtain ⟨uX3, vX3, xX3, yX3⟩ := cells_at2 KX
            have HKX3 := Lib.hid KX
            clear KX
            have KY : w3.heap[w1.heap.size + 1]? = some (.cells #[.int .i64 b1, .int .i64 b2] 37) := (hb3.block (w1.heap.size + 1) (by first | omega | (simp; done) | (simp <;> omega))).trans HKY2.out
            obtain ⟨uY3, vY3, xY3, yY3⟩ := cells_at2 KY
            have HKY3 := Lib.hid KY
            clear KY
            have HB3 := Lib.hid (below_step HB2.out hb3)
            have zw3 := hb3.size
            clear hb3 uQ2 vQ2 xQ2 yQ2 uX2 vX2 xX2 yX2 uY2 vY2 xY2 yY2
            have hq2 : Hid ((!bx) = xorTo (fun i => ray (P i) (P (nx n i)) (q1, q2)) (j + 1)) := by
              show _ = _
              unfold xorTo
              rw [← hx.out, HR.out, hR0]
              (cases bx <;> rfl)
            go_wp2
            go_roundw
            case rel => exact ⟨j + 1, (!bx), by omega, by rw [← HJ1.out]; rfl, by cases bx <;> rfl, hq2, by omega, HKQ3.out, HB3.out⟩
            case measure => have := HJ1.out; simp [intOf]; omega
      · by_cases h2 : q2 < b2
        · have k1 : decide (q2 < a2) = false := decide_eq_false h1
          have k2 : decide (q2 < b2) = true := decide_eq_true h2
          have k3 : decide (a2 < b2) = true := decide_eq_true (by omega)
          by_cases h3 : 0 < C
          · have k4 : decide (0 < C) = true := decide_eq_true h3
            have hR0 : RY = true := by rw [← HR0.out]; unfold ray; dsimp only; rw [k1, k2, k3, HCC.out, k4]; rfl
            go_wp2_with fail
            (go_at_call 78; refine (HO.out _).mono ?_; rintro e_ w2 ⟨rfl, hb2⟩)
            have KQ : w2.heap[w.heap.size]? = some (.cells #[.int .i64 q1, .int .i64 q2] 37) := (hb2.block (w.heap.size) (by first | omega | (simp; done) | (simp <;> omega))).trans ((heapA_old _ _ _ (by simp <;> omega)).trans ((heapA_old _ _ _ (by omega)).trans hQ.out))
            obtain ⟨uQ2, vQ2, xQ2, yQ2⟩ := cells_at2 KQ
            have HKQ2 := Lib.hid KQ
            clear KQ
            have KX : w2.heap[w1.heap.size]? = some (.cells #[.int .i64 a1, .int .i64 a2] 37) := (hb2.block (w1.heap.size) (by first | omega | (simp; done) | (simp <;> omega))).trans ((heapA_old _ _ _ (by simp)).trans (heapA_at _ _ _ rfl))
            obtain ⟨uX2, vX2, xX2, yX2⟩ := cells_at2 KX
            have HKX2 := Lib.hid KX
            clear KX
            have KY : w2.heap[w1.heap.size + 1]? = some (.cells #[.int .i64 b1, .int .i64 b2] 37) := (hb2.block (w1.heap.size + 1) (by first | omega | (simp; done) | (simp <;> omega))).trans (heapA_at _ _ _ (by simp))
            obtain ⟨uY2, vY2, xY2, yY2⟩ := cells_at2 KY
            have HKY2 := Lib.hid KY
            clear KY
            have HB2 := Lib.hid (below_step (w := w) (by have hB := HB1.out; have hz := hB.size; go_grown) hb2)
            have zw2 := hb2.size
            (try simp only [World.size_alloc] at zw2)
            clear hb2
            go_wp2_with fail
            (go_at_call 73; refine (HC.out _).mono ?_; rintro e_ w3 ⟨rfl, hb3⟩)
            have KQ : w3.heap[w.heap.size]? = some (.cells #[.int .i64 q1, .int .i64 q2] 37) := (hb3.block (w.heap.size) (by first | omega | (simp; done) | (simp <;> omega))).trans HKQ2.out
            obtain ⟨uQ3, vQ3, xQ3, yQ3⟩ := cells_at2 KQ
            have HKQ3 := Lib.hid KQ
            clear KQ
            have KX : w3.heap[w1.heap.size]? = some (.cells #[.int .i64 a1, .int .i64 a2] 37) := (hb3.block (w1.heap.size) (by first | omega | (simp; done) | (simp <;> omega))).trans HKX2.out
            obtain ⟨uX3, vX3, xX3, yX3⟩ := cells_at2 KX
            have HKX3 := Lib.hid KX
            clear KX
            have KY : w3.heap[w1.heap.size + 1]? = some (.cells #[.int .i64 b1, .int .i64 b2] 37) := (hb3.block (w1.heap.size + 1) (by first | omega | (simp; done) | (simp <;> omega))).trans HKY2.out
            obtain ⟨uY3, vY3, xY3, yY3⟩ := cells_at2 KY
            have HKY3 := Lib.hid KY
            clear KY
            have HB3 := Lib.hid (below_step HB2.out hb3)
            have zw3 := hb3.size
            clear hb3 uQ2 vQ2 xQ2 yQ2 uX2 vX2 xX2 yX2 uY2 vY2 xY2 yY2
            have hq2 : Hid ((!bx) = xorTo (fun i => ray (P i) (P (nx n i)) (q1, q2)) (j + 1)) := by
              show _ = _
              unfold xorTo
              rw [← hx.out, HR.out, hR0]
              (cases bx <;> rfl)
            go_wp2
            go_roundw
            case rel => exact ⟨j + 1, (!bx), by omega, by rw [← HJ1.out]; rfl, by cases bx <;> rfl, hq2, by omega, HKQ3.out, HB3.out⟩
            case measure => have := HJ1.out; simp [intOf]; omega
          · have k4 : decide (0 < C) = false := decide_eq_false h3
            have hR0 : RY = false := by rw [← HR0.out]; unfold ray; dsimp only; rw [k1, k2, k3, HCC.out, k4]; rfl
            go_wp2_with fail
            (go_at_call 78; refine (HO.out _).mono ?_; rintro e_ w2 ⟨rfl, hb2⟩)
            have KQ : w2.heap[w.heap.size]? = some (.cells #[.int .i64 q1, .int .i64 q2] 37) := (hb2.block (w.heap.size) (by first | omega | (simp; done) | (simp <;> omega))).trans ((heapA_old _ _ _ (by simp <;> omega)).trans ((heapA_old _ _ _ (by omega)).trans hQ.out))
            obtain ⟨uQ2, vQ2, xQ2, yQ2⟩ := cells_at2 KQ
            have HKQ2 := Lib.hid KQ
            clear KQ
            have KX : w2.heap[w1.heap.size]? = some (.cells #[.int .i64 a1, .int .i64 a2] 37) := (hb2.block (w1.heap.size) (by first | omega | (simp; done) | (simp <;> omega))).trans ((heapA_old _ _ _ (by simp)).trans (heapA_at _ _ _ rfl))
            obtain ⟨uX2, vX2, xX2, yX2⟩ := cells_at2 KX
            have HKX2 := Lib.hid KX
            clear KX
            have KY : w2.heap[w1.heap.size + 1]? = some (.cells #[.int .i64 b1, .int .i64 b2] 37) := (hb2.block (w1.heap.size + 1) (by first | omega | (simp; done) | (simp <;> omega))).trans (heapA_at _ _ _ (by simp))
            obtain ⟨uY2, vY2, xY2, yY2⟩ := cells_at2 KY
            have HKY2 := Lib.hid KY
            clear KY
            have HB2 := Lib.hid (below_step (w := w) (by have hB := HB1.out; have hz := hB.size; go_grown) hb2)
            have zw2 := hb2.size
            (try simp only [World.size_alloc] at zw2)
            clear hb2
            go_wp2_with fail
            (go_at_call 73; refine (HC.out _).mono ?_; rintro e_ w3 ⟨rfl, hb3⟩)
            have KQ : w3.heap[w.heap.size]? = some (.cells #[.int .i64 q1, .int .i64 q2] 37) := (hb3.block (w.heap.size) (by first | omega | (simp; done) | (simp <;> omega))).trans HKQ2.out
            obtain ⟨uQ3, vQ3, xQ3, yQ3⟩ := cells_at2 KQ
            have HKQ3 := Lib.hid KQ
            clear KQ
            have KX : w3.heap[w1.heap.size]? = some (.cells #[.int .i64 a1, .int .i64 a2] 37) := (hb3.block (w1.heap.size) (by first | omega | (simp; done) | (simp <;> omega))).trans HKX2.out
            obtain ⟨uX3, vX3, xX3, yX3⟩ := cells_at2 KX
            have HKX3 := Lib.hid KX
            clear KX
            have KY : w3.heap[w1.heap.size + 1]? = some (.cells #[.int .i64 b1, .int .i64 b2] 37) := (hb3.block (w1.heap.size + 1) (by first | omega | (simp; done) | (simp <;> omega))).trans HKY2.out
            obtain ⟨uY3, vY3, xY3, yY3⟩ := cells_at2 KY
            have HKY3 := Lib.hid KY
            clear KY
            have HB3 := Lib.hid (below_step HB2.out hb3)
            have zw3 := hb3.size
            clear hb3 uQ2 vQ2 xQ2 yQ2 uX2 vX2 xX2 yX2 uY2 vY2 xY2 yY2
            have hq2 : Hid (bx = xorTo (fun i => ray (P i) (P (nx n i)) (q1, q2)) (j + 1)) := by
              show _ = _
              unfold xorTo
              rw [← hx.out, HR.out, hR0]
              (cases bx <;> rfl)
            go_wp2
            go_roundw
            case rel => exact ⟨j + 1, bx, by omega, by rw [← HJ1.out]; rfl, by cases bx <;> rfl, hq2, by omega, HKQ3.out, HB3.out⟩
            case measure => have := HJ1.out; simp [intOf]; omega
        · have k1 : decide (q2 < a2) = false := decide_eq_false h1
          have k2 : decide (q2 < b2) = false := decide_eq_false h2
          have hR0 : RY = false := by rw [← HR0.out]; unfold ray; dsimp only; rw [k1, k2]; rfl
          go_wp2_with fail
          (go_at_call 78; refine (HO.out _).mono ?_; rintro e_ w2 ⟨rfl, hb2⟩)
          have KQ : w2.heap[w.heap.size]? = some (.cells #[.int .i64 q1, .int .i64 q2] 37) := (hb2.block (w.heap.size) (by first | omega | (simp; done) | (simp <;> omega))).trans ((heapA_old _ _ _ (by simp <;> omega)).trans ((heapA_old _ _ _ (by omega)).trans hQ.out))
          obtain ⟨uQ2, vQ2, xQ2, yQ2⟩ := cells_at2 KQ
          have HKQ2 := Lib.hid KQ
          clear KQ
          have KX : w2.heap[w1.heap.size]? = some (.cells #[.int .i64 a1, .int .i64 a2] 37) := (hb2.block (w1.heap.size) (by first | omega | (simp; done) | (simp <;> omega))).trans ((heapA_old _ _ _ (by simp)).trans (heapA_at _ _ _ rfl))
          obtain ⟨uX2, vX2, xX2, yX2⟩ := cells_at2 KX
          have HKX2 := Lib.hid KX
          clear KX
          have KY : w2.heap[w1.heap.size + 1]? = some (.cells #[.int .i64 b1, .int .i64 b2] 37) := (hb2.block (w1.heap.size + 1) (by first | omega | (simp; done) | (simp <;> omega))).trans (heapA_at _ _ _ (by simp))
          obtain ⟨uY2, vY2, xY2, yY2⟩ := cells_at2 KY
          have HKY2 := Lib.hid KY
          clear KY
          have HB2 := Lib.hid (below_step (w := w) (by have hB := HB1.out; have hz := hB.size; go_grown) hb2)
          have zw2 := hb2.size
          (try simp only [World.size_alloc] at zw2)
          clear hb2
          have hq2 : Hid (bx = xorTo (fun i => ray (P i) (P (nx n i)) (q1, q2)) (j + 1)) := by
            show _ = _
            unfold xorTo
            rw [← hx.out, HR.out, hR0]
            (cases bx <;> rfl)
          go_wp2
          go_roundw
          case rel => exact ⟨j + 1, bx, by omega, by rw [← HJ1.out]; rfl, by cases bx <;> rfl, hq2, by omega, HKQ2.out, HB2.out⟩
          case measure => have := HJ1.out; simp [intOf]; omega
    · have HE : Hid (R = bx) := by
        show _ = _
        have e : j = n := by omega
        rw [← HRR.out, hx.out, e]
        rfl
      have hB := HB1.out
      cases bx with
      | false =>
        have HZ0 : Hid (Z = -1) := by show _ = _; rw [← HZ.out, HE.out]; rfl
        go_wp2
        go_returns
        rw [HZ0.out]
        exact ⟨rfl, hB⟩
      | true =>
        have HZ0 : Hid (Z = 1) := by show _ = _; rw [← HZ.out, HE.out]; rfl
        go_wp2
        go_returns
        rw [HZ0.out]
        exact ⟨rfl, hB⟩
end Go.Proofs.YtgbhhjdmochhpaaDoor
namespace Go.Proofs.YtgbhhjdmochhpaaDoor
open Go Go.ChangeShapes Go.WideShapes Go.RowKit Go.ChangeAt
set_option linter.unusedVariables false
set_option linter.unusedSimpArgs false

theorem sg_zero_iff {x : Int} : x = 0 ↔ sgI x = 0 := by
  rcases Int.lt_trichotomy x 0 with h | h | h
  · rw [sg_neg h]; omega
  · subst h; rw [sg_zero]
  · rw [sg_pos h]; omega
theorem touch_dec {a b c d : Pt} : decide (meets a b c d) = ((decide (sgI (crs a b c) * sgI (crs a b d) < 0) && decide (sgI (crs c d a) * sgI (crs c d b) < 0)) || ((sgI (crs a b c) == 0 && inB2 a b c) || ((sgI (crs a b d) == 0 && inB2 a b d) || ((sgI (crs c d a) == 0 && inB2 c d a) || (sgI (crs c d b) == 0 && inB2 c d b))))) := by
  have z : ∀ x : Int, decide (x = 0) = (sgI x == 0) := fun x => by
    have e := @sg_zero_iff x
    have e2 : decide (x = 0) = decide (sgI x = 0) := decide_eq_decide.2 e
    rw [e2]
    by_cases h : sgI x = 0 <;> simp [h]
  rw [meets_dec]
  simp only [onS_dec, z]
  generalize (sgI (crs a b c) == 0 && inB2 a b c) = x0
  generalize (sgI (crs a b d) == 0 && inB2 a b d) = x1
  generalize (sgI (crs c d a) == 0 && inB2 c d a) = x2
  generalize (sgI (crs c d b) == 0 && inB2 c d b) = x3
  generalize (decide (sgI (crs a b c) * sgI (crs a b d) < 0) && decide (sgI (crs c d a) * sgI (crs c d b) < 0)) = x4
  cases x0 <;> cases x1 <;> cases x2 <;> cases x3 <;> cases x4 <;> rfl
set_option maxHeartbeats 8000000 in
set_option maxRecDepth 20000 in
theorem touch_any (a1 a2 b1 b2 c1 c2 d1 d2 : Int) (w : World) (ha : Nr (a1, a2)) (hb : Nr (b1, b2)) (hc : Nr (c1, c2)) (hd : Nr (d1, d2)) : Calls Tryd.prog 62 #[.agg #[.int .i64 a1, .int .i64 a2], .agg #[.int .i64 b1, .int .i64 b2], .agg #[.int .i64 c1, .int .i64 c2], .agg #[.int .i64 d1, .int .i64 d2]] w fun e w' => e = .returned (.bool (decide (meets (a1, a2) (b1, b2) (c1, c2) (d1, d2)))) ∧ Below w.heap.size w w' := by
  rw [touch_dec]
  obtain ⟨o0, ho0⟩ : ∃ e, inB2 (a1, a2) (b1, b2) (c1, c2) = e := ⟨_, rfl⟩
  have HO0 : ∀ W, Calls Tryd.prog 77 #[.agg #[.int .i64 a1, .int .i64 a2], .agg #[.int .i64 b1, .int .i64 b2], .agg #[.int .i64 c1, .int .i64 c2]] W (fun e w' => e = .returned (.bool o0) ∧ Below W.heap.size W w') := fun W => by rw [← ho0]; exact onG_any a1 a2 b1 b2 c1 c2 W
  rw [ho0]
  clear ho0
  replace HO0 := Lib.hid HO0
  obtain ⟨o1, ho1⟩ : ∃ e, inB2 (a1, a2) (b1, b2) (d1, d2) = e := ⟨_, rfl⟩
  have HO1 : ∀ W, Calls Tryd.prog 77 #[.agg #[.int .i64 a1, .int .i64 a2], .agg #[.int .i64 b1, .int .i64 b2], .agg #[.int .i64 d1, .int .i64 d2]] W (fun e w' => e = .returned (.bool o1) ∧ Below W.heap.size W w') := fun W => by rw [← ho1]; exact onG_any a1 a2 b1 b2 d1 d2 W
  rw [ho1]
  clear ho1
  replace HO1 := Lib.hid HO1
  obtain ⟨o2, ho2⟩ : ∃ e, inB2 (c1, c2) (d1, d2) (a1, a2) = e := ⟨_, rfl⟩
  have HO2 : ∀ W, Calls Tryd.prog 77 #[.agg #[.int .i64 c1, .int .i64 c2], .agg #[.int .i64 d1, .int .i64 d2], .agg #[.int .i64 a1, .int .i64 a2]] W (fun e w' => e = .returned (.bool o2) ∧ Below W.heap.size W w') := fun W => by rw [← ho2]; exact onG_any c1 c2 d1 d2 a1 a2 W
  rw [ho2]
  clear ho2
  replace HO2 := Lib.hid HO2
  obtain ⟨o3, ho3⟩ : ∃ e, inB2 (c1, c2) (d1, d2) (b1, b2) = e := ⟨_, rfl⟩
  have HO3 : ∀ W, Calls Tryd.prog 77 #[.agg #[.int .i64 c1, .int .i64 c2], .agg #[.int .i64 d1, .int .i64 d2], .agg #[.int .i64 b1, .int .i64 b2]] W (fun e w' => e = .returned (.bool o3) ∧ Below W.heap.size W w') := fun W => by rw [← ho3]; exact onG_any c1 c2 d1 d2 b1 b2 W
  rw [ho3]
  clear ho3
  replace HO3 := Lib.hid HO3
  have m1 := sg_mul (crs (a1, a2) (b1, b2) (c1, c2)) (crs (a1, a2) (b1, b2) (d1, d2))
  have m2 := sg_mul (crs (c1, c2) (d1, d2) (a1, a2)) (crs (c1, c2) (d1, d2) (b1, b2))
  obtain ⟨t0, ht0⟩ : ∃ e, crs (a1, a2) (b1, b2) (c1, c2) = e := ⟨_, rfl⟩
  have HT0 : ∀ W, Calls Tryd.prog 76 #[.agg #[.int .i64 a1, .int .i64 a2], .agg #[.int .i64 b1, .int .i64 b2], .agg #[.int .i64 c1, .int .i64 c2]] W (fun e w' => e = .returned (.int .i64 t0) ∧ Below W.heap.size W w') := fun W => by rw [← ht0]; exact crsG_any a1 a2 b1 b2 c1 c2 W ha hb hc
  rw [ht0]
  rw [ht0] at m1
  clear ht0
  replace HT0 := Lib.hid HT0
  obtain ⟨s0, hs0⟩ : ∃ e, sgI t0 = e := ⟨_, rfl⟩
  have HS0 : ∀ W, Calls Tryd.prog 75 #[.int .i64 t0] W (fun e w' => e = .returned (.int .i64 s0) ∧ Below W.heap.size W w') := fun W => by rw [← hs0]; exact signG_any t0 W
  rw [hs0]
  rw [hs0] at m1
  clear hs0
  replace HS0 := Lib.hid HS0
  obtain ⟨t1, ht1⟩ : ∃ e, crs (a1, a2) (b1, b2) (d1, d2) = e := ⟨_, rfl⟩
  have HT1 : ∀ W, Calls Tryd.prog 76 #[.agg #[.int .i64 a1, .int .i64 a2], .agg #[.int .i64 b1, .int .i64 b2], .agg #[.int .i64 d1, .int .i64 d2]] W (fun e w' => e = .returned (.int .i64 t1) ∧ Below W.heap.size W w') := fun W => by rw [← ht1]; exact crsG_any a1 a2 b1 b2 d1 d2 W ha hb hd
  rw [ht1]
  rw [ht1] at m1
  clear ht1
  replace HT1 := Lib.hid HT1
  obtain ⟨s1, hs1⟩ : ∃ e, sgI t1 = e := ⟨_, rfl⟩
  have HS1 : ∀ W, Calls Tryd.prog 75 #[.int .i64 t1] W (fun e w' => e = .returned (.int .i64 s1) ∧ Below W.heap.size W w') := fun W => by rw [← hs1]; exact signG_any t1 W
  rw [hs1]
  rw [hs1] at m1
  clear hs1
  replace HS1 := Lib.hid HS1
  obtain ⟨t2, ht2⟩ : ∃ e, crs (c1, c2) (d1, d2) (a1, a2) = e := ⟨_, rfl⟩
  have HT2 : ∀ W, Calls Tryd.prog 76 #[.agg #[.int .i64 c1, .int .i64 c2], .agg #[.int .i64 d1, .int .i64 d2], .agg #[.int .i64 a1, .int .i64 a2]] W (fun e w' => e = .returned (.int .i64 t2) ∧ Below W.heap.size W w') := fun W => by rw [← ht2]; exact crsG_any c1 c2 d1 d2 a1 a2 W hc hd ha
  rw [ht2]
  rw [ht2] at m2
  clear ht2
  replace HT2 := Lib.hid HT2
  obtain ⟨s2, hs2⟩ : ∃ e, sgI t2 = e := ⟨_, rfl⟩
  have HS2 : ∀ W, Calls Tryd.prog 75 #[.int .i64 t2] W (fun e w' => e = .returned (.int .i64 s2) ∧ Below W.heap.size W w') := fun W => by rw [← hs2]; exact signG_any t2 W
  rw [hs2]
  rw [hs2] at m2
  clear hs2
  replace HS2 := Lib.hid HS2
  obtain ⟨t3, ht3⟩ : ∃ e, crs (c1, c2) (d1, d2) (b1, b2) = e := ⟨_, rfl⟩
  have HT3 : ∀ W, Calls Tryd.prog 76 #[.agg #[.int .i64 c1, .int .i64 c2], .agg #[.int .i64 d1, .int .i64 d2], .agg #[.int .i64 b1, .int .i64 b2]] W (fun e w' => e = .returned (.int .i64 t3) ∧ Below W.heap.size W w') := fun W => by rw [← ht3]; exact crsG_any c1 c2 d1 d2 b1 b2 W hc hd hb
  rw [ht3]
  rw [ht3] at m2
  clear ht3
  replace HT3 := Lib.hid HT3
  obtain ⟨s3, hs3⟩ : ∃ e, sgI t3 = e := ⟨_, rfl⟩
  have HS3 : ∀ W, Calls Tryd.prog 75 #[.int .i64 t3] W (fun e w' => e = .returned (.int .i64 s3) ∧ Below W.heap.size W w') := fun W => by rw [← hs3]; exact signG_any t3 W
  rw [hs3]
  rw [hs3] at m2
  clear hs3
  replace HS3 := Lib.hid HS3
  clear ha hb hc hd
  obtain ⟨p1, hp1⟩ : ∃ e, s0 * s1 = e := ⟨_, rfl⟩
  obtain ⟨p2, hp2⟩ : ∃ e, s2 * s3 = e := ⟨_, rfl⟩
  rw [hp1] at m1
  rw [hp2] at m2
  have wr1 : IntKind.i64.wrap (s0 * s1) = p1 := by rw [hp1]; exact IntWalk.i64_in _ (by omega)
  have wr2 : IntKind.i64.wrap (s2 * s3) = p2 := by rw [hp2]; exact IntWalk.i64_in _ (by omega)
  rw [hp1, hp2]
  clear hp1 hp2 m1 m2
  obtain ⟨z0, hz0⟩ : ∃ e, (s0 == 0) = e := ⟨_, rfl⟩
  rw [hz0]
  obtain ⟨z1, hz1⟩ : ∃ e, (s1 == 0) = e := ⟨_, rfl⟩
  rw [hz1]
  obtain ⟨z2, hz2⟩ : ∃ e, (s2 == 0) = e := ⟨_, rfl⟩
  rw [hz2]
  obtain ⟨z3, hz3⟩ : ∃ e, (s3 == 0) = e := ⟨_, rfl⟩
  rw [hz3]
  have HZ := Lib.hid (And.intro hz0 (And.intro hz1 (And.intro hz2 hz3)))
  clear hz0 hz1 hz2 hz3
  generalize hR : (_ || _) = R
  replace hR := Lib.hid hR
  go_enter Tryd.func62, Tryd.ntmps62
  go_wp2_with fail
  refine wp_region_seq 12 [] [] (by kernel_rfl) (by kernel_rfl) (by kernel_rfl) (by kernel_rfl) (by kernel_rfl) ?_ ?_ ?_
  · intro r hr; cases hr
  · intro r hr; cases hr
  simp only [List.take_succ_cons, List.take_zero, fillL, Act.put, List.setIfInBounds_toArray, List.set_cons_zero, List.set_cons_succ]
  apply seq_is (by kernel_rfl)
  · intro u wx hb hd
    replace hb := hb.nil
    have hz := hb.size
    (try simp only [World.size_alloc, World.size_setCell] at hz)
    have hz0 : w.heap.size < wx.heap.size := by omega
    have hz1 : w.heap.size + 1 < wx.heap.size := by omega
    have hz2 : w.heap.size + 1 + 1 < wx.heap.size := by omega
    have hz3 : w.heap.size + 1 + 1 + 1 < wx.heap.size := by omega
    obtain ⟨hc, hf⟩ := bcell hb
    clear hb hz
    simp [depsE, Region.binds, updE, kindOf, Prp.is, Prp.any] at hd
    go_simp
    first | exact ⟨Below.refl _ _, rfl⟩ | rfl
  apply seq_is (by kernel_rfl)
  · intro u wx hb hd
    replace hb := hb.nil
    have hz := hb.size
    (try simp only [World.size_alloc, World.size_setCell] at hz)
    have hz0 : w.heap.size < wx.heap.size := by omega
    have hz1 : w.heap.size + 1 < wx.heap.size := by omega
    have hz2 : w.heap.size + 1 + 1 < wx.heap.size := by omega
    have hz3 : w.heap.size + 1 + 1 + 1 < wx.heap.size := by omega
    obtain ⟨hc, hf⟩ := bcell hb
    clear hb hz
    simp [depsE, Region.binds, updE, kindOf, Prp.is, Prp.any] at hd
    go_simp
    first | exact ⟨Below.refl _ _, rfl⟩ | rfl
  apply seq_is (by kernel_rfl)
  · intro u wx hb hd
    replace hb := hb.nil
    have hz := hb.size
    (try simp only [World.size_alloc, World.size_setCell] at hz)
    have hz0 : w.heap.size < wx.heap.size := by omega
    have hz1 : w.heap.size + 1 < wx.heap.size := by omega
    have hz2 : w.heap.size + 1 + 1 < wx.heap.size := by omega
    have hz3 : w.heap.size + 1 + 1 + 1 < wx.heap.size := by omega
    obtain ⟨hc, hf⟩ := bcell hb
    clear hb hz
    simp [depsE, Region.binds, updE, kindOf, Prp.is, Prp.any] at hd
    go_simp
    first | exact ⟨Below.refl _ _, rfl⟩ | rfl
  apply seq_is (by kernel_rfl)
  · intro u wx hb hd
    replace hb := hb.nil
    have hz := hb.size
    (try simp only [World.size_alloc, World.size_setCell] at hz)
    have hz0 : w.heap.size < wx.heap.size := by omega
    have hz1 : w.heap.size + 1 < wx.heap.size := by omega
    have hz2 : w.heap.size + 1 + 1 < wx.heap.size := by omega
    have hz3 : w.heap.size + 1 + 1 + 1 < wx.heap.size := by omega
    obtain ⟨hc, hf⟩ := bcell hb
    clear hb hz
    simp [depsE, Region.binds, updE, kindOf, Prp.is, Prp.any] at hd
    go_simp
    first | rfl | (go_at_call 76; refine (HT0.out _).mono ?_; rintro e w1 ⟨rfl, hb1⟩; first | exact ⟨rfl, hb1⟩ | exact ⟨_, rfl, hb1, rfl⟩)
  apply seq_is (by kernel_rfl)
  · intro u wx hb hd
    replace hb := hb.nil
    have hz := hb.size
    (try simp only [World.size_alloc, World.size_setCell] at hz)
    have hz0 : w.heap.size < wx.heap.size := by omega
    have hz1 : w.heap.size + 1 < wx.heap.size := by omega
    have hz2 : w.heap.size + 1 + 1 < wx.heap.size := by omega
    have hz3 : w.heap.size + 1 + 1 + 1 < wx.heap.size := by omega
    obtain ⟨hc, hf⟩ := bcell hb
    clear hb hz
    simp [depsE, Region.binds, updE, kindOf, Prp.is, Prp.any] at hd
    go_simp
    first | rfl | (go_at_call 75; refine (HS0.out _).mono ?_; rintro e w1 ⟨rfl, hb1⟩; first | exact ⟨rfl, hb1⟩ | exact ⟨_, rfl, hb1, rfl⟩)
  apply seq_is (by kernel_rfl)
  · intro u wx hb hd
    replace hb := hb.nil
    have hz := hb.size
    (try simp only [World.size_alloc, World.size_setCell] at hz)
    have hz0 : w.heap.size < wx.heap.size := by omega
    have hz1 : w.heap.size + 1 < wx.heap.size := by omega
    have hz2 : w.heap.size + 1 + 1 < wx.heap.size := by omega
    have hz3 : w.heap.size + 1 + 1 + 1 < wx.heap.size := by omega
    obtain ⟨hc, hf⟩ := bcell hb
    clear hb hz
    simp [depsE, Region.binds, updE, kindOf, Prp.is, Prp.any] at hd
    go_simp
    first | exact ⟨Below.refl _ _, rfl⟩ | rfl
  apply seq_is (by kernel_rfl)
  · intro u wx hb hd
    replace hb := hb.nil
    have hz := hb.size
    (try simp only [World.size_alloc, World.size_setCell] at hz)
    have hz0 : w.heap.size < wx.heap.size := by omega
    have hz1 : w.heap.size + 1 < wx.heap.size := by omega
    have hz2 : w.heap.size + 1 + 1 < wx.heap.size := by omega
    have hz3 : w.heap.size + 1 + 1 + 1 < wx.heap.size := by omega
    obtain ⟨hc, hf⟩ := bcell hb
    clear hb hz
    simp [depsE, Region.binds, updE, kindOf, Prp.is, Prp.any] at hd
    go_simp
    first | exact ⟨Below.refl _ _, rfl⟩ | rfl
  apply seq_is (by kernel_rfl)
  · intro u wx hb hd
    replace hb := hb.nil
    have hz := hb.size
    (try simp only [World.size_alloc, World.size_setCell] at hz)
    have hz0 : w.heap.size < wx.heap.size := by omega
    have hz1 : w.heap.size + 1 < wx.heap.size := by omega
    have hz2 : w.heap.size + 1 + 1 < wx.heap.size := by omega
    have hz3 : w.heap.size + 1 + 1 + 1 < wx.heap.size := by omega
    obtain ⟨hc, hf⟩ := bcell hb
    clear hb hz
    simp [depsE, Region.binds, updE, kindOf, Prp.is, Prp.any] at hd
    go_simp
    first | exact ⟨Below.refl _ _, rfl⟩ | rfl
  apply seq_is (by kernel_rfl)
  · intro u wx hb hd
    replace hb := hb.nil
    have hz := hb.size
    (try simp only [World.size_alloc, World.size_setCell] at hz)
    have hz0 : w.heap.size < wx.heap.size := by omega
    have hz1 : w.heap.size + 1 < wx.heap.size := by omega
    have hz2 : w.heap.size + 1 + 1 < wx.heap.size := by omega
    have hz3 : w.heap.size + 1 + 1 + 1 < wx.heap.size := by omega
    obtain ⟨hc, hf⟩ := bcell hb
    clear hb hz
    simp [depsE, Region.binds, updE, kindOf, Prp.is, Prp.any] at hd
    go_simp
    first | rfl | (go_at_call 76; refine (HT1.out _).mono ?_; rintro e w1 ⟨rfl, hb1⟩; first | exact ⟨rfl, hb1⟩ | exact ⟨_, rfl, hb1, rfl⟩)
  apply seq_is (by kernel_rfl)
  · intro u wx hb hd
    replace hb := hb.nil
    have hz := hb.size
    (try simp only [World.size_alloc, World.size_setCell] at hz)
    have hz0 : w.heap.size < wx.heap.size := by omega
    have hz1 : w.heap.size + 1 < wx.heap.size := by omega
    have hz2 : w.heap.size + 1 + 1 < wx.heap.size := by omega
    have hz3 : w.heap.size + 1 + 1 + 1 < wx.heap.size := by omega
    obtain ⟨hc, hf⟩ := bcell hb
    clear hb hz
    simp [depsE, Region.binds, updE, kindOf, Prp.is, Prp.any] at hd
    go_simp
    first | rfl | (go_at_call 75; refine (HS1.out _).mono ?_; rintro e w1 ⟨rfl, hb1⟩; first | exact ⟨rfl, hb1⟩ | exact ⟨_, rfl, hb1, rfl⟩)
  apply seq_is (by kernel_rfl)
  · intro u wx hb hd
    replace hb := hb.nil
    have hz := hb.size
    (try simp only [World.size_alloc, World.size_setCell] at hz)
    have hz0 : w.heap.size < wx.heap.size := by omega
    have hz1 : w.heap.size + 1 < wx.heap.size := by omega
    have hz2 : w.heap.size + 1 + 1 < wx.heap.size := by omega
    have hz3 : w.heap.size + 1 + 1 + 1 < wx.heap.size := by omega
    obtain ⟨hc, hf⟩ := bcell hb
    clear hb hz
    simp [depsE, Region.binds, updE, kindOf, Prp.is, Prp.any] at hd
    go_simp
    first | exact ⟨Below.refl _ _, rfl⟩ | rfl
  apply seq_is (by kernel_rfl)
  · intro u wx hb hd
    replace hb := hb.nil
    have hz := hb.size
    (try simp only [World.size_alloc, World.size_setCell] at hz)
    have hz0 : w.heap.size < wx.heap.size := by omega
    have hz1 : w.heap.size + 1 < wx.heap.size := by omega
    have hz2 : w.heap.size + 1 + 1 < wx.heap.size := by omega
    have hz3 : w.heap.size + 1 + 1 + 1 < wx.heap.size := by omega
    obtain ⟨hc, hf⟩ := bcell hb
    clear hb hz
    simp [depsE, Region.binds, updE, kindOf, Prp.is, Prp.any] at hd
    go_simp
    first | exact ⟨Below.refl _ _, rfl⟩ | rfl
  intro u w5 hb hE hV hP
  replace hb := hb.nil
  clear hP
  have e0 : u 0 = _ := endE_get hE 0 (by decide) (by simp [kindOf])
  have e1 : u 1 = _ := endE_get hE 1 (by decide) (by simp [kindOf])
  have e2 : u 2 = _ := endE_get hE 2 (by decide) (by simp [kindOf])
  have e3 : u 3 = _ := endE_get hE 3 (by decide) (by simp [kindOf])
  have e4 : u 4 = _ := endE_get hE 4 (by decide) (by simp [kindOf])
  have e5 : u 5 = _ := endE_get hE 5 (by decide) (by simp [kindOf])
  have e6 : u 6 = _ := endE_get hE 6 (by decide) (by simp [kindOf])
  have e7 : u 7 = _ := endE_get hE 7 (by decide) (by simp [kindOf])
  have e8 : u 8 = _ := endE_get hE 8 (by decide) (by simp [kindOf])
  have e9 : u 9 = _ := endE_get hE 9 (by decide) (by simp [kindOf])
  have e10 : u 10 = _ := endE_get hE 10 (by decide) (by simp [kindOf])
  have e11 : u 11 = _ := endE_get hE 11 (by decide) (by simp [kindOf])
  clear hV
  simp only [List.drop_succ_cons, List.drop_zero, List.take_succ_cons, List.take_zero, fillL, Act.put, List.setIfInBounds_toArray, List.set_cons_zero, List.set_cons_succ, e0, e1, e2, e3, e4, e5, e6, e7, e8, e9, e10, e11]
  clear e0 e1 e2 e3 e4 e5 e6 e7 e8 e9 e10 e11 hE
  have HBWw5 := Lib.hid hb
  have hw5 := below_step (w := w) (by first | assumption | go_grown) hb
  have hzw5 := hb.size
  (try simp only [World.size_alloc, World.size_setCell] at hzw5)
  have hzw50 : w.heap.size < w5.heap.size := by omega
  have hzw51 : w.heap.size + 1 < w5.heap.size := by omega
  have hzw52 : w.heap.size + 1 + 1 < w5.heap.size := by omega
  have hzw53 : w.heap.size + 1 + 1 + 1 < w5.heap.size := by omega
  have HHw5 := Lib.hid hb.block
  obtain ⟨hcw5, hfw5⟩ := bcell hb
  clear hb hzw5
  have hs5 := HBWw5.out.size
  (try simp only [World.size_alloc, World.size_setCell] at hs5)
  have K0 : w5.heap[w.heap.size]? = some (.cells #[.int .i64 a1, .int .i64 a2] 37) := (HBWw5.out.block (w.heap.size) (by first | omega | (simp; done) | (simp <;> omega))).trans (by first | exact heapA_at _ _ _ (by first | rfl | (simp; done)) | exact (heapA_old _ _ _ (by simp <;> omega)).trans (heapA_at _ _ _ (by first | rfl | (simp; done))) | exact (heapA_old _ _ _ (by simp <;> omega)).trans ((heapA_old _ _ _ (by simp <;> omega)).trans (heapA_at _ _ _ (by first | rfl | (simp; done)))) | exact (heapA_old _ _ _ (by simp <;> omega)).trans ((heapA_old _ _ _ (by simp <;> omega)).trans ((heapA_old _ _ _ (by simp <;> omega)).trans (heapA_at _ _ _ (by first | rfl | (simp; done))))))
  obtain ⟨u05, v05, x05, y05⟩ := cells_at2 K0
  have HK05 := Lib.hid K0
  clear K0
  have K1 : w5.heap[w.heap.size + 1]? = some (.cells #[.int .i64 b1, .int .i64 b2] 37) := (HBWw5.out.block (w.heap.size + 1) (by first | omega | (simp; done) | (simp <;> omega))).trans (by first | exact heapA_at _ _ _ (by first | rfl | (simp; done)) | exact (heapA_old _ _ _ (by simp <;> omega)).trans (heapA_at _ _ _ (by first | rfl | (simp; done))) | exact (heapA_old _ _ _ (by simp <;> omega)).trans ((heapA_old _ _ _ (by simp <;> omega)).trans (heapA_at _ _ _ (by first | rfl | (simp; done)))) | exact (heapA_old _ _ _ (by simp <;> omega)).trans ((heapA_old _ _ _ (by simp <;> omega)).trans ((heapA_old _ _ _ (by simp <;> omega)).trans (heapA_at _ _ _ (by first | rfl | (simp; done))))))
  obtain ⟨u15, v15, x15, y15⟩ := cells_at2 K1
  have HK15 := Lib.hid K1
  clear K1
  have K2 : w5.heap[w.heap.size + 1 + 1]? = some (.cells #[.int .i64 c1, .int .i64 c2] 37) := (HBWw5.out.block (w.heap.size + 1 + 1) (by first | omega | (simp; done) | (simp <;> omega))).trans (by first | exact heapA_at _ _ _ (by first | rfl | (simp; done)) | exact (heapA_old _ _ _ (by simp <;> omega)).trans (heapA_at _ _ _ (by first | rfl | (simp; done))) | exact (heapA_old _ _ _ (by simp <;> omega)).trans ((heapA_old _ _ _ (by simp <;> omega)).trans (heapA_at _ _ _ (by first | rfl | (simp; done)))) | exact (heapA_old _ _ _ (by simp <;> omega)).trans ((heapA_old _ _ _ (by simp <;> omega)).trans ((heapA_old _ _ _ (by simp <;> omega)).trans (heapA_at _ _ _ (by first | rfl | (simp; done))))))
  obtain ⟨u25, v25, x25, y25⟩ := cells_at2 K2
  have HK25 := Lib.hid K2
  clear K2
  have K3 : w5.heap[w.heap.size + 1 + 1 + 1]? = some (.cells #[.int .i64 d1, .int .i64 d2] 37) := (HBWw5.out.block (w.heap.size + 1 + 1 + 1) (by first | omega | (simp; done) | (simp <;> omega))).trans (by first | exact heapA_at _ _ _ (by first | rfl | (simp; done)) | exact (heapA_old _ _ _ (by simp <;> omega)).trans (heapA_at _ _ _ (by first | rfl | (simp; done))) | exact (heapA_old _ _ _ (by simp <;> omega)).trans ((heapA_old _ _ _ (by simp <;> omega)).trans (heapA_at _ _ _ (by first | rfl | (simp; done)))) | exact (heapA_old _ _ _ (by simp <;> omega)).trans ((heapA_old _ _ _ (by simp <;> omega)).trans ((heapA_old _ _ _ (by simp <;> omega)).trans (heapA_at _ _ _ (by first | rfl | (simp; done))))))
  obtain ⟨u35, v35, x35, y35⟩ := cells_at2 K3
  have HK35 := Lib.hid K3
  clear K3
  clear hcw5 hfw5
  go_wp2_with fail
  refine wp_region_seq 12 [] [] (by kernel_rfl) (by kernel_rfl) (by kernel_rfl) (by kernel_rfl) (by kernel_rfl) ?_ ?_ ?_
  · intro r hr; cases hr
  · intro r hr; cases hr
  simp only [List.take_succ_cons, List.take_zero, fillL, Act.put, List.setIfInBounds_toArray, List.set_cons_zero, List.set_cons_succ]
  apply seq_is (by kernel_rfl)
  · intro u wx hb hd
    replace hb := hb.nil
    have hz := hb.size
    (try simp only [World.size_alloc, World.size_setCell] at hz)
    have hz0 : w.heap.size < wx.heap.size := by omega
    have hz1 : w.heap.size + 1 < wx.heap.size := by omega
    have hz2 : w.heap.size + 1 + 1 < wx.heap.size := by omega
    have hz3 : w.heap.size + 1 + 1 + 1 < wx.heap.size := by omega
    obtain ⟨hc, hf⟩ := bcell hb
    clear hb hz
    simp [depsE, Region.binds, updE, kindOf, Prp.is, Prp.any] at hd
    go_simp
    first | exact ⟨Below.refl _ _, rfl⟩ | rfl
  apply seq_is (by kernel_rfl)
  · intro u wx hb hd
    replace hb := hb.nil
    have hz := hb.size
    (try simp only [World.size_alloc, World.size_setCell] at hz)
    have hz0 : w.heap.size < wx.heap.size := by omega
    have hz1 : w.heap.size + 1 < wx.heap.size := by omega
    have hz2 : w.heap.size + 1 + 1 < wx.heap.size := by omega
    have hz3 : w.heap.size + 1 + 1 + 1 < wx.heap.size := by omega
    obtain ⟨hc, hf⟩ := bcell hb
    clear hb hz
    simp [depsE, Region.binds, updE, kindOf, Prp.is, Prp.any] at hd
    go_simp
    first | exact ⟨Below.refl _ _, rfl⟩ | rfl
  apply seq_is (by kernel_rfl)
  · intro u wx hb hd
    replace hb := hb.nil
    have hz := hb.size
    (try simp only [World.size_alloc, World.size_setCell] at hz)
    have hz0 : w.heap.size < wx.heap.size := by omega
    have hz1 : w.heap.size + 1 < wx.heap.size := by omega
    have hz2 : w.heap.size + 1 + 1 < wx.heap.size := by omega
    have hz3 : w.heap.size + 1 + 1 + 1 < wx.heap.size := by omega
    obtain ⟨hc, hf⟩ := bcell hb
    clear hb hz
    simp [depsE, Region.binds, updE, kindOf, Prp.is, Prp.any] at hd
    go_simp
    first | exact ⟨Below.refl _ _, rfl⟩ | rfl
  apply seq_is (by kernel_rfl)
  · intro u wx hb hd
    replace hb := hb.nil
    have hz := hb.size
    (try simp only [World.size_alloc, World.size_setCell] at hz)
    have hz0 : w.heap.size < wx.heap.size := by omega
    have hz1 : w.heap.size + 1 < wx.heap.size := by omega
    have hz2 : w.heap.size + 1 + 1 < wx.heap.size := by omega
    have hz3 : w.heap.size + 1 + 1 + 1 < wx.heap.size := by omega
    obtain ⟨hc, hf⟩ := bcell hb
    clear hb hz
    simp [depsE, Region.binds, updE, kindOf, Prp.is, Prp.any] at hd
    go_simp
    first | rfl | (go_at_call 76; refine (HT2.out _).mono ?_; rintro e w1 ⟨rfl, hb1⟩; first | exact ⟨rfl, hb1⟩ | exact ⟨_, rfl, hb1, rfl⟩)
  apply seq_is (by kernel_rfl)
  · intro u wx hb hd
    replace hb := hb.nil
    have hz := hb.size
    (try simp only [World.size_alloc, World.size_setCell] at hz)
    have hz0 : w.heap.size < wx.heap.size := by omega
    have hz1 : w.heap.size + 1 < wx.heap.size := by omega
    have hz2 : w.heap.size + 1 + 1 < wx.heap.size := by omega
    have hz3 : w.heap.size + 1 + 1 + 1 < wx.heap.size := by omega
    obtain ⟨hc, hf⟩ := bcell hb
    clear hb hz
    simp [depsE, Region.binds, updE, kindOf, Prp.is, Prp.any] at hd
    go_simp
    first | rfl | (go_at_call 75; refine (HS2.out _).mono ?_; rintro e w1 ⟨rfl, hb1⟩; first | exact ⟨rfl, hb1⟩ | exact ⟨_, rfl, hb1, rfl⟩)
  apply seq_is (by kernel_rfl)
  · intro u wx hb hd
    replace hb := hb.nil
    have hz := hb.size
    (try simp only [World.size_alloc, World.size_setCell] at hz)
    have hz0 : w.heap.size < wx.heap.size := by omega
    have hz1 : w.heap.size + 1 < wx.heap.size := by omega
    have hz2 : w.heap.size + 1 + 1 < wx.heap.size := by omega
    have hz3 : w.heap.size + 1 + 1 + 1 < wx.heap.size := by omega
    obtain ⟨hc, hf⟩ := bcell hb
    clear hb hz
    simp [depsE, Region.binds, updE, kindOf, Prp.is, Prp.any] at hd
    go_simp
    first | exact ⟨Below.refl _ _, rfl⟩ | rfl
  apply seq_is (by kernel_rfl)
  · intro u wx hb hd
    replace hb := hb.nil
    have hz := hb.size
    (try simp only [World.size_alloc, World.size_setCell] at hz)
    have hz0 : w.heap.size < wx.heap.size := by omega
    have hz1 : w.heap.size + 1 < wx.heap.size := by omega
    have hz2 : w.heap.size + 1 + 1 < wx.heap.size := by omega
    have hz3 : w.heap.size + 1 + 1 + 1 < wx.heap.size := by omega
    obtain ⟨hc, hf⟩ := bcell hb
    clear hb hz
    simp [depsE, Region.binds, updE, kindOf, Prp.is, Prp.any] at hd
    go_simp
    first | exact ⟨Below.refl _ _, rfl⟩ | rfl
  apply seq_is (by kernel_rfl)
  · intro u wx hb hd
    replace hb := hb.nil
    have hz := hb.size
    (try simp only [World.size_alloc, World.size_setCell] at hz)
    have hz0 : w.heap.size < wx.heap.size := by omega
    have hz1 : w.heap.size + 1 < wx.heap.size := by omega
    have hz2 : w.heap.size + 1 + 1 < wx.heap.size := by omega
    have hz3 : w.heap.size + 1 + 1 + 1 < wx.heap.size := by omega
    obtain ⟨hc, hf⟩ := bcell hb
    clear hb hz
    simp [depsE, Region.binds, updE, kindOf, Prp.is, Prp.any] at hd
    go_simp
    first | exact ⟨Below.refl _ _, rfl⟩ | rfl
  apply seq_is (by kernel_rfl)
  · intro u wx hb hd
    replace hb := hb.nil
    have hz := hb.size
    (try simp only [World.size_alloc, World.size_setCell] at hz)
    have hz0 : w.heap.size < wx.heap.size := by omega
    have hz1 : w.heap.size + 1 < wx.heap.size := by omega
    have hz2 : w.heap.size + 1 + 1 < wx.heap.size := by omega
    have hz3 : w.heap.size + 1 + 1 + 1 < wx.heap.size := by omega
    obtain ⟨hc, hf⟩ := bcell hb
    clear hb hz
    simp [depsE, Region.binds, updE, kindOf, Prp.is, Prp.any] at hd
    go_simp
    first | rfl | (go_at_call 76; refine (HT3.out _).mono ?_; rintro e w1 ⟨rfl, hb1⟩; first | exact ⟨rfl, hb1⟩ | exact ⟨_, rfl, hb1, rfl⟩)
  apply seq_is (by kernel_rfl)
  · intro u wx hb hd
    replace hb := hb.nil
    have hz := hb.size
    (try simp only [World.size_alloc, World.size_setCell] at hz)
    have hz0 : w.heap.size < wx.heap.size := by omega
    have hz1 : w.heap.size + 1 < wx.heap.size := by omega
    have hz2 : w.heap.size + 1 + 1 < wx.heap.size := by omega
    have hz3 : w.heap.size + 1 + 1 + 1 < wx.heap.size := by omega
    obtain ⟨hc, hf⟩ := bcell hb
    clear hb hz
    simp [depsE, Region.binds, updE, kindOf, Prp.is, Prp.any] at hd
    go_simp
    first | rfl | (go_at_call 75; refine (HS3.out _).mono ?_; rintro e w1 ⟨rfl, hb1⟩; first | exact ⟨rfl, hb1⟩ | exact ⟨_, rfl, hb1, rfl⟩)
  apply seq_is (by kernel_rfl)
  · intro u wx hb hd
    replace hb := hb.nil
    have hz := hb.size
    (try simp only [World.size_alloc, World.size_setCell] at hz)
    have hz0 : w.heap.size < wx.heap.size := by omega
    have hz1 : w.heap.size + 1 < wx.heap.size := by omega
    have hz2 : w.heap.size + 1 + 1 < wx.heap.size := by omega
    have hz3 : w.heap.size + 1 + 1 + 1 < wx.heap.size := by omega
    obtain ⟨hc, hf⟩ := bcell hb
    clear hb hz
    simp [depsE, Region.binds, updE, kindOf, Prp.is, Prp.any] at hd
    go_simp
    first | exact ⟨Below.refl _ _, rfl⟩ | rfl
  apply seq_is (by kernel_rfl)
  · intro u wx hb hd
    replace hb := hb.nil
    have hz := hb.size
    (try simp only [World.size_alloc, World.size_setCell] at hz)
    have hz0 : w.heap.size < wx.heap.size := by omega
    have hz1 : w.heap.size + 1 < wx.heap.size := by omega
    have hz2 : w.heap.size + 1 + 1 < wx.heap.size := by omega
    have hz3 : w.heap.size + 1 + 1 + 1 < wx.heap.size := by omega
    obtain ⟨hc, hf⟩ := bcell hb
    clear hb hz
    simp [depsE, Region.binds, updE, kindOf, Prp.is, Prp.any] at hd
    go_simp
    first | exact ⟨Below.refl _ _, rfl⟩ | rfl
  intro u w6 hb hE hV hP
  replace hb := hb.nil
  clear hP
  have e0 : u 0 = _ := endE_get hE 0 (by decide) (by simp [kindOf])
  have e1 : u 1 = _ := endE_get hE 1 (by decide) (by simp [kindOf])
  have e2 : u 2 = _ := endE_get hE 2 (by decide) (by simp [kindOf])
  have e3 : u 3 = _ := endE_get hE 3 (by decide) (by simp [kindOf])
  have e4 : u 4 = _ := endE_get hE 4 (by decide) (by simp [kindOf])
  have e5 : u 5 = _ := endE_get hE 5 (by decide) (by simp [kindOf])
  have e6 : u 6 = _ := endE_get hE 6 (by decide) (by simp [kindOf])
  have e7 : u 7 = _ := endE_get hE 7 (by decide) (by simp [kindOf])
  have e8 : u 8 = _ := endE_get hE 8 (by decide) (by simp [kindOf])
  have e9 : u 9 = _ := endE_get hE 9 (by decide) (by simp [kindOf])
  have e10 : u 10 = _ := endE_get hE 10 (by decide) (by simp [kindOf])
  have e11 : u 11 = _ := endE_get hE 11 (by decide) (by simp [kindOf])
  clear hV
  simp only [List.drop_succ_cons, List.drop_zero, List.take_succ_cons, List.take_zero, fillL, Act.put, List.setIfInBounds_toArray, List.set_cons_zero, List.set_cons_succ, e0, e1, e2, e3, e4, e5, e6, e7, e8, e9, e10, e11]
  clear e0 e1 e2 e3 e4 e5 e6 e7 e8 e9 e10 e11 hE
  have HBWw6 := Lib.hid hb
  have hw6 := below_step (w := w) (by first | assumption | go_grown) hb
  have hzw6 := hb.size
  (try simp only [World.size_alloc, World.size_setCell] at hzw6)
  have hzw60 : w.heap.size < w6.heap.size := by omega
  have hzw61 : w.heap.size + 1 < w6.heap.size := by omega
  have hzw62 : w.heap.size + 1 + 1 < w6.heap.size := by omega
  have hzw63 : w.heap.size + 1 + 1 + 1 < w6.heap.size := by omega
  have HHw6 := Lib.hid hb.block
  obtain ⟨hcw6, hfw6⟩ := bcell hb
  clear hb hzw6
  have hs6 := HBWw6.out.size
  (try simp only [World.size_alloc, World.size_setCell] at hs6)
  have K0 : w6.heap[w.heap.size]? = some (.cells #[.int .i64 a1, .int .i64 a2] 37) := (HBWw6.out.block (w.heap.size) (by first | omega | (simp; done) | (simp <;> omega))).trans HK05.out
  obtain ⟨u06, v06, x06, y06⟩ := cells_at2 K0
  have HK06 := Lib.hid K0
  clear K0
  have K1 : w6.heap[w.heap.size + 1]? = some (.cells #[.int .i64 b1, .int .i64 b2] 37) := (HBWw6.out.block (w.heap.size + 1) (by first | omega | (simp; done) | (simp <;> omega))).trans HK15.out
  obtain ⟨u16, v16, x16, y16⟩ := cells_at2 K1
  have HK16 := Lib.hid K1
  clear K1
  have K2 : w6.heap[w.heap.size + 1 + 1]? = some (.cells #[.int .i64 c1, .int .i64 c2] 37) := (HBWw6.out.block (w.heap.size + 1 + 1) (by first | omega | (simp; done) | (simp <;> omega))).trans HK25.out
  obtain ⟨u26, v26, x26, y26⟩ := cells_at2 K2
  have HK26 := Lib.hid K2
  clear K2
  have K3 : w6.heap[w.heap.size + 1 + 1 + 1]? = some (.cells #[.int .i64 d1, .int .i64 d2] 37) := (HBWw6.out.block (w.heap.size + 1 + 1 + 1) (by first | omega | (simp; done) | (simp <;> omega))).trans HK35.out
  obtain ⟨u36, v36, x36, y36⟩ := cells_at2 K3
  have HK36 := Lib.hid K3
  clear K3
  clear hcw6 hfw6
  clear u05 v05 x05 y05 u15 v15 x15 y15 u25 v25 x25 y25 u35 v35 x35 y35
  have HB6 := Lib.hid hw6
  by_cases n0 : p1 < 0 ∧ p2 < 0
  · have k1 : decide (p1 < 0) = true := decide_eq_true n0.1
    have k2 : decide (p2 < 0) = true := decide_eq_true n0.2
    clear n0
    go_wp2
    go_returns
    have h := hR.out
    simp only [k1, k2, Bool.false_and, Bool.true_and, Bool.false_or, Bool.true_or, Bool.and_false, Bool.or_false] at h
    first | rw [← h] | rw [h]
    exact ⟨rfl, hw6⟩
  have n3 : (decide (p1 < 0) = true ∧ decide (p2 < 0) = false) ∨ (decide (p1 < 0) = false ∧ True) := by
    by_cases n1 : p1 < 0
    · exact .inl ⟨decide_eq_true n1, decide_eq_false (fun h => n0 ⟨n1, h⟩)⟩
    · exact .inr ⟨decide_eq_false n1, trivial⟩
  clear n0
  rcases n3 with ⟨k1, k2⟩ | ⟨k1, k2⟩
  all_goals
    obtain ⟨hz0, hz1, hz2, hz3⟩ := HZ.out
    clear HZ
    cases z0 with
    | false =>
      have kz0 : (s0 == 0) = false := hz0
      clear hz0
      cases z1 with
      | false =>
        have kz1 : (s1 == 0) = false := hz1
        clear hz1
        cases z2 with
        | false =>
          have kz2 : (s2 == 0) = false := hz2
          clear hz2
          cases z3 with
          | false =>
            have kz3 : (s3 == 0) = false := hz3
            clear hz3
            go_wp2
            go_returns
            have h := hR.out
            first | simp only [k1, k2, Bool.false_and, Bool.true_and, Bool.false_or, Bool.true_or, Bool.and_false, Bool.or_false] at h | simp only [k1, Bool.false_and, Bool.true_and, Bool.false_or, Bool.true_or, Bool.and_false, Bool.or_false] at h
            first | rw [← h] | rw [h]
            exact ⟨rfl, hw6⟩
          | true =>
            have kz3 : (s3 == 0) = true := hz3
            clear hz3
            go_wp2_with fail
            (go_at_call 77; refine (HO3.out _).mono ?_; rintro e_ w7 ⟨rfl, hb7⟩)
            have HB7 := Lib.hid (below_step (w := w) (by first | assumption | exact HB6.out | go_grown) hb7)
            have hs7 := hb7.size
            have K0 : w7.heap[w.heap.size]? = some (.cells #[.int .i64 a1, .int .i64 a2] 37) := (hb7.block (w.heap.size) (by first | omega | (simp; done) | (simp <;> omega))).trans HK06.out
            obtain ⟨u07, v07, x07, y07⟩ := cells_at2 K0
            have HK07 := Lib.hid K0
            clear K0
            have K1 : w7.heap[w.heap.size + 1]? = some (.cells #[.int .i64 b1, .int .i64 b2] 37) := (hb7.block (w.heap.size + 1) (by first | omega | (simp; done) | (simp <;> omega))).trans HK16.out
            obtain ⟨u17, v17, x17, y17⟩ := cells_at2 K1
            have HK17 := Lib.hid K1
            clear K1
            have K2 : w7.heap[w.heap.size + 1 + 1]? = some (.cells #[.int .i64 c1, .int .i64 c2] 37) := (hb7.block (w.heap.size + 1 + 1) (by first | omega | (simp; done) | (simp <;> omega))).trans HK26.out
            obtain ⟨u27, v27, x27, y27⟩ := cells_at2 K2
            have HK27 := Lib.hid K2
            clear K2
            have K3 : w7.heap[w.heap.size + 1 + 1 + 1]? = some (.cells #[.int .i64 d1, .int .i64 d2] 37) := (hb7.block (w.heap.size + 1 + 1 + 1) (by first | omega | (simp; done) | (simp <;> omega))).trans HK36.out
            obtain ⟨u37, v37, x37, y37⟩ := cells_at2 K3
            have HK37 := Lib.hid K3
            clear K3
            clear u06 v06 x06 y06 u16 v16 x16 y16 u26 v26 x26 y26 u36 v36 x36 y36 hb7
            cases o3 with
            | true =>
              go_wp2
              go_returns
              have h := hR.out
              first | simp only [k1, k2, Bool.false_and, Bool.true_and, Bool.false_or, Bool.true_or, Bool.and_false, Bool.or_false] at h | simp only [k1, Bool.false_and, Bool.true_and, Bool.false_or, Bool.true_or, Bool.and_false, Bool.or_false] at h
              first | rw [← h] | rw [h]
              exact ⟨rfl, HB7.out⟩
            | false =>
              go_wp2
              go_returns
              have h := hR.out
              first | simp only [k1, k2, Bool.false_and, Bool.true_and, Bool.false_or, Bool.true_or, Bool.and_false, Bool.or_false] at h | simp only [k1, Bool.false_and, Bool.true_and, Bool.false_or, Bool.true_or, Bool.and_false, Bool.or_false] at h
              first | rw [← h] | rw [h]
              exact ⟨rfl, HB7.out⟩
        | true =>
          have kz2 : (s2 == 0) = true := hz2
          clear hz2
          go_wp2_with fail
          (go_at_call 77; refine (HO2.out _).mono ?_; rintro e_ w7 ⟨rfl, hb7⟩)
          have HB7 := Lib.hid (below_step (w := w) (by first | assumption | exact HB6.out | go_grown) hb7)
          have hs7 := hb7.size
          have K0 : w7.heap[w.heap.size]? = some (.cells #[.int .i64 a1, .int .i64 a2] 37) := (hb7.block (w.heap.size) (by first | omega | (simp; done) | (simp <;> omega))).trans HK06.out
          obtain ⟨u07, v07, x07, y07⟩ := cells_at2 K0
          have HK07 := Lib.hid K0
          clear K0
          have K1 : w7.heap[w.heap.size + 1]? = some (.cells #[.int .i64 b1, .int .i64 b2] 37) := (hb7.block (w.heap.size + 1) (by first | omega | (simp; done) | (simp <;> omega))).trans HK16.out
          obtain ⟨u17, v17, x17, y17⟩ := cells_at2 K1
          have HK17 := Lib.hid K1
          clear K1
          have K2 : w7.heap[w.heap.size + 1 + 1]? = some (.cells #[.int .i64 c1, .int .i64 c2] 37) := (hb7.block (w.heap.size + 1 + 1) (by first | omega | (simp; done) | (simp <;> omega))).trans HK26.out
          obtain ⟨u27, v27, x27, y27⟩ := cells_at2 K2
          have HK27 := Lib.hid K2
          clear K2
          have K3 : w7.heap[w.heap.size + 1 + 1 + 1]? = some (.cells #[.int .i64 d1, .int .i64 d2] 37) := (hb7.block (w.heap.size + 1 + 1 + 1) (by first | omega | (simp; done) | (simp <;> omega))).trans HK36.out
          obtain ⟨u37, v37, x37, y37⟩ := cells_at2 K3
          have HK37 := Lib.hid K3
          clear K3
          clear u06 v06 x06 y06 u16 v16 x16 y16 u26 v26 x26 y26 u36 v36 x36 y36 hb7
          cases o2 with
          | true =>
            go_wp2
            go_returns
            have h := hR.out
            first | simp only [k1, k2, Bool.false_and, Bool.true_and, Bool.false_or, Bool.true_or, Bool.and_false, Bool.or_false] at h | simp only [k1, Bool.false_and, Bool.true_and, Bool.false_or, Bool.true_or, Bool.and_false, Bool.or_false] at h
            first | rw [← h] | rw [h]
            exact ⟨rfl, HB7.out⟩
          | false =>
            cases z3 with
            | false =>
              have kz3 : (s3 == 0) = false := hz3
              clear hz3
              go_wp2
              go_returns
              have h := hR.out
              first | simp only [k1, k2, Bool.false_and, Bool.true_and, Bool.false_or, Bool.true_or, Bool.and_false, Bool.or_false] at h | simp only [k1, Bool.false_and, Bool.true_and, Bool.false_or, Bool.true_or, Bool.and_false, Bool.or_false] at h
              first | rw [← h] | rw [h]
              exact ⟨rfl, HB7.out⟩
            | true =>
              have kz3 : (s3 == 0) = true := hz3
              clear hz3
              go_wp2_with fail
              (go_at_call 77; refine (HO3.out _).mono ?_; rintro e_ w8 ⟨rfl, hb8⟩)
              have HB8 := Lib.hid (below_step (w := w) (by first | assumption | exact HB7.out | go_grown) hb8)
              have hs8 := hb8.size
              have K0 : w8.heap[w.heap.size]? = some (.cells #[.int .i64 a1, .int .i64 a2] 37) := (hb8.block (w.heap.size) (by first | omega | (simp; done) | (simp <;> omega))).trans HK07.out
              obtain ⟨u08, v08, x08, y08⟩ := cells_at2 K0
              have HK08 := Lib.hid K0
              clear K0
              have K1 : w8.heap[w.heap.size + 1]? = some (.cells #[.int .i64 b1, .int .i64 b2] 37) := (hb8.block (w.heap.size + 1) (by first | omega | (simp; done) | (simp <;> omega))).trans HK17.out
              obtain ⟨u18, v18, x18, y18⟩ := cells_at2 K1
              have HK18 := Lib.hid K1
              clear K1
              have K2 : w8.heap[w.heap.size + 1 + 1]? = some (.cells #[.int .i64 c1, .int .i64 c2] 37) := (hb8.block (w.heap.size + 1 + 1) (by first | omega | (simp; done) | (simp <;> omega))).trans HK27.out
              obtain ⟨u28, v28, x28, y28⟩ := cells_at2 K2
              have HK28 := Lib.hid K2
              clear K2
              have K3 : w8.heap[w.heap.size + 1 + 1 + 1]? = some (.cells #[.int .i64 d1, .int .i64 d2] 37) := (hb8.block (w.heap.size + 1 + 1 + 1) (by first | omega | (simp; done) | (simp <;> omega))).trans HK37.out
              obtain ⟨u38, v38, x38, y38⟩ := cells_at2 K3
              have HK38 := Lib.hid K3
              clear K3
              clear u07 v07 x07 y07 u17 v17 x17 y17 u27 v27 x27 y27 u37 v37 x37 y37 hb8
              cases o3 with
              | true =>
                go_wp2
                go_returns
                have h := hR.out
                first | simp only [k1, k2, Bool.false_and, Bool.true_and, Bool.false_or, Bool.true_or, Bool.and_false, Bool.or_false] at h | simp only [k1, Bool.false_and, Bool.true_and, Bool.false_or, Bool.true_or, Bool.and_false, Bool.or_false] at h
                first | rw [← h] | rw [h]
                exact ⟨rfl, HB8.out⟩
              | false =>
                go_wp2
                go_returns
                have h := hR.out
                first | simp only [k1, k2, Bool.false_and, Bool.true_and, Bool.false_or, Bool.true_or, Bool.and_false, Bool.or_false] at h | simp only [k1, Bool.false_and, Bool.true_and, Bool.false_or, Bool.true_or, Bool.and_false, Bool.or_false] at h
                first | rw [← h] | rw [h]
                exact ⟨rfl, HB8.out⟩
      | true =>
        have kz1 : (s1 == 0) = true := hz1
        clear hz1
        go_wp2_with fail
        (go_at_call 77; refine (HO1.out _).mono ?_; rintro e_ w7 ⟨rfl, hb7⟩)
        have HB7 := Lib.hid (below_step (w := w) (by first | assumption | exact HB6.out | go_grown) hb7)
        have hs7 := hb7.size
        have K0 : w7.heap[w.heap.size]? = some (.cells #[.int .i64 a1, .int .i64 a2] 37) := (hb7.block (w.heap.size) (by first | omega | (simp; done) | (simp <;> omega))).trans HK06.out
        obtain ⟨u07, v07, x07, y07⟩ := cells_at2 K0
        have HK07 := Lib.hid K0
        clear K0
        have K1 : w7.heap[w.heap.size + 1]? = some (.cells #[.int .i64 b1, .int .i64 b2] 37) := (hb7.block (w.heap.size + 1) (by first | omega | (simp; done) | (simp <;> omega))).trans HK16.out
        obtain ⟨u17, v17, x17, y17⟩ := cells_at2 K1
        have HK17 := Lib.hid K1
        clear K1
        have K2 : w7.heap[w.heap.size + 1 + 1]? = some (.cells #[.int .i64 c1, .int .i64 c2] 37) := (hb7.block (w.heap.size + 1 + 1) (by first | omega | (simp; done) | (simp <;> omega))).trans HK26.out
        obtain ⟨u27, v27, x27, y27⟩ := cells_at2 K2
        have HK27 := Lib.hid K2
        clear K2
        have K3 : w7.heap[w.heap.size + 1 + 1 + 1]? = some (.cells #[.int .i64 d1, .int .i64 d2] 37) := (hb7.block (w.heap.size + 1 + 1 + 1) (by first | omega | (simp; done) | (simp <;> omega))).trans HK36.out
        obtain ⟨u37, v37, x37, y37⟩ := cells_at2 K3
        have HK37 := Lib.hid K3
        clear K3
        clear u06 v06 x06 y06 u16 v16 x16 y16 u26 v26 x26 y26 u36 v36 x36 y36 hb7
        cases o1 with
        | true =>
          go_wp2
          go_returns
          have h := hR.out
          first | simp only [k1, k2, Bool.false_and, Bool.true_and, Bool.false_or, Bool.true_or, Bool.and_false, Bool.or_false] at h | simp only [k1, Bool.false_and, Bool.true_and, Bool.false_or, Bool.true_or, Bool.and_false, Bool.or_false] at h
          first | rw [← h] | rw [h]
          exact ⟨rfl, HB7.out⟩
        | false =>
          cases z2 with
          | false =>
            have kz2 : (s2 == 0) = false := hz2
            clear hz2
            cases z3 with
            | false =>
              have kz3 : (s3 == 0) = false := hz3
              clear hz3
              go_wp2
              go_returns
              have h := hR.out
              first | simp only [k1, k2, Bool.false_and, Bool.true_and, Bool.false_or, Bool.true_or, Bool.and_false, Bool.or_false] at h | simp only [k1, Bool.false_and, Bool.true_and, Bool.false_or, Bool.true_or, Bool.and_false, Bool.or_false] at h
              first | rw [← h] | rw [h]
              exact ⟨rfl, HB7.out⟩
            | true =>
              have kz3 : (s3 == 0) = true := hz3
              clear hz3
              go_wp2_with fail
              (go_at_call 77; refine (HO3.out _).mono ?_; rintro e_ w8 ⟨rfl, hb8⟩)
              have HB8 := Lib.hid (below_step (w := w) (by first | assumption | exact HB7.out | go_grown) hb8)
              have hs8 := hb8.size
              have K0 : w8.heap[w.heap.size]? = some (.cells #[.int .i64 a1, .int .i64 a2] 37) := (hb8.block (w.heap.size) (by first | omega | (simp; done) | (simp <;> omega))).trans HK07.out
              obtain ⟨u08, v08, x08, y08⟩ := cells_at2 K0
              have HK08 := Lib.hid K0
              clear K0
              have K1 : w8.heap[w.heap.size + 1]? = some (.cells #[.int .i64 b1, .int .i64 b2] 37) := (hb8.block (w.heap.size + 1) (by first | omega | (simp; done) | (simp <;> omega))).trans HK17.out
              obtain ⟨u18, v18, x18, y18⟩ := cells_at2 K1
              have HK18 := Lib.hid K1
              clear K1
              have K2 : w8.heap[w.heap.size + 1 + 1]? = some (.cells #[.int .i64 c1, .int .i64 c2] 37) := (hb8.block (w.heap.size + 1 + 1) (by first | omega | (simp; done) | (simp <;> omega))).trans HK27.out
              obtain ⟨u28, v28, x28, y28⟩ := cells_at2 K2
              have HK28 := Lib.hid K2
              clear K2
              have K3 : w8.heap[w.heap.size + 1 + 1 + 1]? = some (.cells #[.int .i64 d1, .int .i64 d2] 37) := (hb8.block (w.heap.size + 1 + 1 + 1) (by first | omega | (simp; done) | (simp <;> omega))).trans HK37.out
              obtain ⟨u38, v38, x38, y38⟩ := cells_at2 K3
              have HK38 := Lib.hid K3
              clear K3
              clear u07 v07 x07 y07 u17 v17 x17 y17 u27 v27 x27 y27 u37 v37 x37 y37 hb8
              cases o3 with
              | true =>
                go_wp2
                go_returns
                have h := hR.out
                first | simp only [k1, k2, Bool.false_and, Bool.true_and, Bool.false_or, Bool.true_or, Bool.and_false, Bool.or_false] at h | simp only [k1, Bool.false_and, Bool.true_and, Bool.false_or, Bool.true_or, Bool.and_false, Bool.or_false] at h
                first | rw [← h] | rw [h]
                exact ⟨rfl, HB8.out⟩
              | false =>
                go_wp2
                go_returns
                have h := hR.out
                first | simp only [k1, k2, Bool.false_and, Bool.true_and, Bool.false_or, Bool.true_or, Bool.and_false, Bool.or_false] at h | simp only [k1, Bool.false_and, Bool.true_and, Bool.false_or, Bool.true_or, Bool.and_false, Bool.or_false] at h
                first | rw [← h] | rw [h]
                exact ⟨rfl, HB8.out⟩
          | true =>
            have kz2 : (s2 == 0) = true := hz2
            clear hz2
            go_wp2_with fail
            (go_at_call 77; refine (HO2.out _).mono ?_; rintro e_ w8 ⟨rfl, hb8⟩)
            have HB8 := Lib.hid (below_step (w := w) (by first | assumption | exact HB7.out | go_grown) hb8)
            have hs8 := hb8.size
            have K0 : w8.heap[w.heap.size]? = some (.cells #[.int .i64 a1, .int .i64 a2] 37) := (hb8.block (w.heap.size) (by first | omega | (simp; done) | (simp <;> omega))).trans HK07.out
            obtain ⟨u08, v08, x08, y08⟩ := cells_at2 K0
            have HK08 := Lib.hid K0
            clear K0
            have K1 : w8.heap[w.heap.size + 1]? = some (.cells #[.int .i64 b1, .int .i64 b2] 37) := (hb8.block (w.heap.size + 1) (by first | omega | (simp; done) | (simp <;> omega))).trans HK17.out
            obtain ⟨u18, v18, x18, y18⟩ := cells_at2 K1
            have HK18 := Lib.hid K1
            clear K1
            have K2 : w8.heap[w.heap.size + 1 + 1]? = some (.cells #[.int .i64 c1, .int .i64 c2] 37) := (hb8.block (w.heap.size + 1 + 1) (by first | omega | (simp; done) | (simp <;> omega))).trans HK27.out
            obtain ⟨u28, v28, x28, y28⟩ := cells_at2 K2
            have HK28 := Lib.hid K2
            clear K2
            have K3 : w8.heap[w.heap.size + 1 + 1 + 1]? = some (.cells #[.int .i64 d1, .int .i64 d2] 37) := (hb8.block (w.heap.size + 1 + 1 + 1) (by first | omega | (simp; done) | (simp <;> omega))).trans HK37.out
            obtain ⟨u38, v38, x38, y38⟩ := cells_at2 K3
            have HK38 := Lib.hid K3
            clear K3
            clear u07 v07 x07 y07 u17 v17 x17 y17 u27 v27 x27 y27 u37 v37 x37 y37 hb8
            cases o2 with
            | true =>
              go_wp2
              go_returns
              have h := hR.out
              first | simp only [k1, k2, Bool.false_and, Bool.true_and, Bool.false_or, Bool.true_or, Bool.and_false, Bool.or_false] at h | simp only [k1, Bool.false_and, Bool.true_and, Bool.false_or, Bool.true_or, Bool.and_false, Bool.or_false] at h
              first | rw [← h] | rw [h]
              exact ⟨rfl, HB8.out⟩
            | false =>
              cases z3 with
              | false =>
                have kz3 : (s3 == 0) = false := hz3
                clear hz3
                go_wp2
                go_returns
                have h := hR.out
                first | simp only [k1, k2, Bool.false_and, Bool.true_and, Bool.false_or, Bool.true_or, Bool.and_false, Bool.or_false] at h | simp only [k1, Bool.false_and, Bool.true_and, Bool.false_or, Bool.true_or, Bool.and_false, Bool.or_false] at h
                first | rw [← h] | rw [h]
                exact ⟨rfl, HB8.out⟩
              | true =>
                have kz3 : (s3 == 0) = true := hz3
                clear hz3
                go_wp2_with fail
                (go_at_call 77; refine (HO3.out _).mono ?_; rintro e_ w9 ⟨rfl, hb9⟩)
                have HB9 := Lib.hid (below_step (w := w) (by first | assumption | exact HB8.out | go_grown) hb9)
                have hs9 := hb9.size
                have K0 : w9.heap[w.heap.size]? = some (.cells #[.int .i64 a1, .int .i64 a2] 37) := (hb9.block (w.heap.size) (by first | omega | (simp; done) | (simp <;> omega))).trans HK08.out
                obtain ⟨u09, v09, x09, y09⟩ := cells_at2 K0
                have HK09 := Lib.hid K0
                clear K0
                have K1 : w9.heap[w.heap.size + 1]? = some (.cells #[.int .i64 b1, .int .i64 b2] 37) := (hb9.block (w.heap.size + 1) (by first | omega | (simp; done) | (simp <;> omega))).trans HK18.out
                obtain ⟨u19, v19, x19, y19⟩ := cells_at2 K1
                have HK19 := Lib.hid K1
                clear K1
                have K2 : w9.heap[w.heap.size + 1 + 1]? = some (.cells #[.int .i64 c1, .int .i64 c2] 37) := (hb9.block (w.heap.size + 1 + 1) (by first | omega | (simp; done) | (simp <;> omega))).trans HK28.out
                obtain ⟨u29, v29, x29, y29⟩ := cells_at2 K2
                have HK29 := Lib.hid K2
                clear K2
                have K3 : w9.heap[w.heap.size + 1 + 1 + 1]? = some (.cells #[.int .i64 d1, .int .i64 d2] 37) := (hb9.block (w.heap.size + 1 + 1 + 1) (by first | omega | (simp; done) | (simp <;> omega))).trans HK38.out
                obtain ⟨u39, v39, x39, y39⟩ := cells_at2 K3
                have HK39 := Lib.hid K3
                clear K3
                clear u08 v08 x08 y08 u18 v18 x18 y18 u28 v28 x28 y28 u38 v38 x38 y38 hb9
                cases o3 with
                | true =>
                  go_wp2
                  go_returns
                  have h := hR.out
                  first | simp only [k1, k2, Bool.false_and, Bool.true_and, Bool.false_or, Bool.true_or, Bool.and_false, Bool.or_false] at h | simp only [k1, Bool.false_and, Bool.true_and, Bool.false_or, Bool.true_or, Bool.and_false, Bool.or_false] at h
                  first | rw [← h] | rw [h]
                  exact ⟨rfl, HB9.out⟩
                | false =>
                  go_wp2
                  go_returns
                  have h := hR.out
                  first | simp only [k1, k2, Bool.false_and, Bool.true_and, Bool.false_or, Bool.true_or, Bool.and_false, Bool.or_false] at h | simp only [k1, Bool.false_and, Bool.true_and, Bool.false_or, Bool.true_or, Bool.and_false, Bool.or_false] at h
                  first | rw [← h] | rw [h]
                  exact ⟨rfl, HB9.out⟩
    | true =>
      have kz0 : (s0 == 0) = true := hz0
      clear hz0
      go_wp2_with fail
      (go_at_call 77; refine (HO0.out _).mono ?_; rintro e_ w7 ⟨rfl, hb7⟩)
      have HB7 := Lib.hid (below_step (w := w) (by first | assumption | exact HB6.out | go_grown) hb7)
      have hs7 := hb7.size
      have K0 : w7.heap[w.heap.size]? = some (.cells #[.int .i64 a1, .int .i64 a2] 37) := (hb7.block (w.heap.size) (by first | omega | (simp; done) | (simp <;> omega))).trans HK06.out
      obtain ⟨u07, v07, x07, y07⟩ := cells_at2 K0
      have HK07 := Lib.hid K0
      clear K0
      have K1 : w7.heap[w.heap.size + 1]? = some (.cells #[.int .i64 b1, .int .i64 b2] 37) := (hb7.block (w.heap.size + 1) (by first | omega | (simp; done) | (simp <;> omega))).trans HK16.out
      obtain ⟨u17, v17, x17, y17⟩ := cells_at2 K1
      have HK17 := Lib.hid K1
      clear K1
      have K2 : w7.heap[w.heap.size + 1 + 1]? = some (.cells #[.int .i64 c1, .int .i64 c2] 37) := (hb7.block (w.heap.size + 1 + 1) (by first | omega | (simp; done) | (simp <;> omega))).trans HK26.out
      obtain ⟨u27, v27, x27, y27⟩ := cells_at2 K2
      have HK27 := Lib.hid K2
      clear K2
      have K3 : w7.heap[w.heap.size + 1 + 1 + 1]? = some (.cells #[.int .i64 d1, .int .i64 d2] 37) := (hb7.block (w.heap.size + 1 + 1 + 1) (by first | omega | (simp; done) | (simp <;> omega))).trans HK36.out
      obtain ⟨u37, v37, x37, y37⟩ := cells_at2 K3
      have HK37 := Lib.hid K3
      clear K3
      clear u06 v06 x06 y06 u16 v16 x16 y16 u26 v26 x26 y26 u36 v36 x36 y36 hb7
      cases o0 with
      | true =>
        go_wp2
        go_returns
        have h := hR.out
        first | simp only [k1, k2, Bool.false_and, Bool.true_and, Bool.false_or, Bool.true_or, Bool.and_false, Bool.or_false] at h | simp only [k1, Bool.false_and, Bool.true_and, Bool.false_or, Bool.true_or, Bool.and_false, Bool.or_false] at h
        first | rw [← h] | rw [h]
        exact ⟨rfl, HB7.out⟩
      | false =>
        cases z1 with
        | false =>
          have kz1 : (s1 == 0) = false := hz1
          clear hz1
          cases z2 with
          | false =>
            have kz2 : (s2 == 0) = false := hz2
            clear hz2
            cases z3 with
            | false =>
              have kz3 : (s3 == 0) = false := hz3
              clear hz3
              go_wp2
              go_returns
              have h := hR.out
              first | simp only [k1, k2, Bool.false_and, Bool.true_and, Bool.false_or, Bool.true_or, Bool.and_false, Bool.or_false] at h | simp only [k1, Bool.false_and, Bool.true_and, Bool.false_or, Bool.true_or, Bool.and_false, Bool.or_false] at h
              first | rw [← h] | rw [h]
              exact ⟨rfl, HB7.out⟩
            | true =>
              have kz3 : (s3 == 0) = true := hz3
              clear hz3
              go_wp2_with fail
              (go_at_call 77; refine (HO3.out _).mono ?_; rintro e_ w8 ⟨rfl, hb8⟩)
              have HB8 := Lib.hid (below_step (w := w) (by first | assumption | exact HB7.out | go_grown) hb8)
              have hs8 := hb8.size
              have K0 : w8.heap[w.heap.size]? = some (.cells #[.int .i64 a1, .int .i64 a2] 37) := (hb8.block (w.heap.size) (by first | omega | (simp; done) | (simp <;> omega))).trans HK07.out
              obtain ⟨u08, v08, x08, y08⟩ := cells_at2 K0
              have HK08 := Lib.hid K0
              clear K0
              have K1 : w8.heap[w.heap.size + 1]? = some (.cells #[.int .i64 b1, .int .i64 b2] 37) := (hb8.block (w.heap.size + 1) (by first | omega | (simp; done) | (simp <;> omega))).trans HK17.out
              obtain ⟨u18, v18, x18, y18⟩ := cells_at2 K1
              have HK18 := Lib.hid K1
              clear K1
              have K2 : w8.heap[w.heap.size + 1 + 1]? = some (.cells #[.int .i64 c1, .int .i64 c2] 37) := (hb8.block (w.heap.size + 1 + 1) (by first | omega | (simp; done) | (simp <;> omega))).trans HK27.out
              obtain ⟨u28, v28, x28, y28⟩ := cells_at2 K2
              have HK28 := Lib.hid K2
              clear K2
              have K3 : w8.heap[w.heap.size + 1 + 1 + 1]? = some (.cells #[.int .i64 d1, .int .i64 d2] 37) := (hb8.block (w.heap.size + 1 + 1 + 1) (by first | omega | (simp; done) | (simp <;> omega))).trans HK37.out
              obtain ⟨u38, v38, x38, y38⟩ := cells_at2 K3
              have HK38 := Lib.hid K3
              clear K3
              clear u07 v07 x07 y07 u17 v17 x17 y17 u27 v27 x27 y27 u37 v37 x37 y37 hb8
              cases o3 with
              | true =>
                go_wp2
                go_returns
                have h := hR.out
                first | simp only [k1, k2, Bool.false_and, Bool.true_and, Bool.false_or, Bool.true_or, Bool.and_false, Bool.or_false] at h | simp only [k1, Bool.false_and, Bool.true_and, Bool.false_or, Bool.true_or, Bool.and_false, Bool.or_false] at h
                first | rw [← h] | rw [h]
                exact ⟨rfl, HB8.out⟩
              | false =>
                go_wp2
                go_returns
                have h := hR.out
                first | simp only [k1, k2, Bool.false_and, Bool.true_and, Bool.false_or, Bool.true_or, Bool.and_false, Bool.or_false] at h | simp only [k1, Bool.false_and, Bool.true_and, Bool.false_or, Bool.true_or, Bool.and_false, Bool.or_false] at h
                first | rw [← h] | rw [h]
                exact ⟨rfl, HB8.out⟩
          | true =>
            have kz2 : (s2 == 0) = true := hz2
            clear hz2
            go_wp2_with fail
            (go_at_call 77; refine (HO2.out _).mono ?_; rintro e_ w8 ⟨rfl, hb8⟩)
            have HB8 := Lib.hid (below_step (w := w) (by first | assumption | exact HB7.out | go_grown) hb8)
            have hs8 := hb8.size
            have K0 : w8.heap[w.heap.size]? = some (.cells #[.int .i64 a1, .int .i64 a2] 37) := (hb8.block (w.heap.size) (by first | omega | (simp; done) | (simp <;> omega))).trans HK07.out
            obtain ⟨u08, v08, x08, y08⟩ := cells_at2 K0
            have HK08 := Lib.hid K0
            clear K0
            have K1 : w8.heap[w.heap.size + 1]? = some (.cells #[.int .i64 b1, .int .i64 b2] 37) := (hb8.block (w.heap.size + 1) (by first | omega | (simp; done) | (simp <;> omega))).trans HK17.out
            obtain ⟨u18, v18, x18, y18⟩ := cells_at2 K1
            have HK18 := Lib.hid K1
            clear K1
            have K2 : w8.heap[w.heap.size + 1 + 1]? = some (.cells #[.int .i64 c1, .int .i64 c2] 37) := (hb8.block (w.heap.size + 1 + 1) (by first | omega | (simp; done) | (simp <;> omega))).trans HK27.out
            obtain ⟨u28, v28, x28, y28⟩ := cells_at2 K2
            have HK28 := Lib.hid K2
            clear K2
            have K3 : w8.heap[w.heap.size + 1 + 1 + 1]? = some (.cells #[.int .i64 d1, .int .i64 d2] 37) := (hb8.block (w.heap.size + 1 + 1 + 1) (by first | omega | (simp; done) | (simp <;> omega))).trans HK37.out
            obtain ⟨u38, v38, x38, y38⟩ := cells_at2 K3
            have HK38 := Lib.hid K3
            clear K3
            clear u07 v07 x07 y07 u17 v17 x17 y17 u27 v27 x27 y27 u37 v37 x37 y37 hb8
            cases o2 with
            | true =>
              go_wp2
              go_returns
              have h := hR.out
              first | simp only [k1, k2, Bool.false_and, Bool.true_and, Bool.false_or, Bool.true_or, Bool.and_false, Bool.or_false] at h | simp only [k1, Bool.false_and, Bool.true_and, Bool.false_or, Bool.true_or, Bool.and_false, Bool.or_false] at h
              first | rw [← h] | rw [h]
              exact ⟨rfl, HB8.out⟩
            | false =>
              cases z3 with
              | false =>
                have kz3 : (s3 == 0) = false := hz3
                clear hz3
                go_wp2
                go_returns
                have h := hR.out
                first | simp only [k1, k2, Bool.false_and, Bool.true_and, Bool.false_or, Bool.true_or, Bool.and_false, Bool.or_false] at h | simp only [k1, Bool.false_and, Bool.true_and, Bool.false_or, Bool.true_or, Bool.and_false, Bool.or_false] at h
                first | rw [← h] | rw [h]
                exact ⟨rfl, HB8.out⟩
              | true =>
                have kz3 : (s3 == 0) = true := hz3
                clear hz3
                go_wp2_with fail
                (go_at_call 77; refine (HO3.out _).mono ?_; rintro e_ w9 ⟨rfl, hb9⟩)
                have HB9 := Lib.hid (below_step (w := w) (by first | assumption | exact HB8.out | go_grown) hb9)
                have hs9 := hb9.size
                have K0 : w9.heap[w.heap.size]? = some (.cells #[.int .i64 a1, .int .i64 a2] 37) := (hb9.block (w.heap.size) (by first | omega | (simp; done) | (simp <;> omega))).trans HK08.out
                obtain ⟨u09, v09, x09, y09⟩ := cells_at2 K0
                have HK09 := Lib.hid K0
                clear K0
                have K1 : w9.heap[w.heap.size + 1]? = some (.cells #[.int .i64 b1, .int .i64 b2] 37) := (hb9.block (w.heap.size + 1) (by first | omega | (simp; done) | (simp <;> omega))).trans HK18.out
                obtain ⟨u19, v19, x19, y19⟩ := cells_at2 K1
                have HK19 := Lib.hid K1
                clear K1
                have K2 : w9.heap[w.heap.size + 1 + 1]? = some (.cells #[.int .i64 c1, .int .i64 c2] 37) := (hb9.block (w.heap.size + 1 + 1) (by first | omega | (simp; done) | (simp <;> omega))).trans HK28.out
                obtain ⟨u29, v29, x29, y29⟩ := cells_at2 K2
                have HK29 := Lib.hid K2
                clear K2
                have K3 : w9.heap[w.heap.size + 1 + 1 + 1]? = some (.cells #[.int .i64 d1, .int .i64 d2] 37) := (hb9.block (w.heap.size + 1 + 1 + 1) (by first | omega | (simp; done) | (simp <;> omega))).trans HK38.out
                obtain ⟨u39, v39, x39, y39⟩ := cells_at2 K3
                have HK39 := Lib.hid K3
                clear K3
                clear u08 v08 x08 y08 u18 v18 x18 y18 u28 v28 x28 y28 u38 v38 x38 y38 hb9
                cases o3 with
                | true =>
                  go_wp2
                  go_returns
                  have h := hR.out
                  first | simp only [k1, k2, Bool.false_and, Bool.true_and, Bool.false_or, Bool.true_or, Bool.and_false, Bool.or_false] at h | simp only [k1, Bool.false_and, Bool.true_and, Bool.false_or, Bool.true_or, Bool.and_false, Bool.or_false] at h
                  first | rw [← h] | rw [h]
                  exact ⟨rfl, HB9.out⟩
                | false =>
                  go_wp2
                  go_returns
                  have h := hR.out
                  first | simp only [k1, k2, Bool.false_and, Bool.true_and, Bool.false_or, Bool.true_or, Bool.and_false, Bool.or_false] at h | simp only [k1, Bool.false_and, Bool.true_and, Bool.false_or, Bool.true_or, Bool.and_false, Bool.or_false] at h
                  first | rw [← h] | rw [h]
                  exact ⟨rfl, HB9.out⟩
        | true =>
          have kz1 : (s1 == 0) = true := hz1
          clear hz1
          go_wp2_with fail
          (go_at_call 77; refine (HO1.out _).mono ?_; rintro e_ w8 ⟨rfl, hb8⟩)
          have HB8 := Lib.hid (below_step (w := w) (by first | assumption | exact HB7.out | go_grown) hb8)
          have hs8 := hb8.size
          have K0 : w8.heap[w.heap.size]? = some (.cells #[.int .i64 a1, .int .i64 a2] 37) := (hb8.block (w.heap.size) (by first | omega | (simp; done) | (simp <;> omega))).trans HK07.out
          obtain ⟨u08, v08, x08, y08⟩ := cells_at2 K0
          have HK08 := Lib.hid K0
          clear K0
          have K1 : w8.heap[w.heap.size + 1]? = some (.cells #[.int .i64 b1, .int .i64 b2] 37) := (hb8.block (w.heap.size + 1) (by first | omega | (simp; done) | (simp <;> omega))).trans HK17.out
          obtain ⟨u18, v18, x18, y18⟩ := cells_at2 K1
          have HK18 := Lib.hid K1
          clear K1
          have K2 : w8.heap[w.heap.size + 1 + 1]? = some (.cells #[.int .i64 c1, .int .i64 c2] 37) := (hb8.block (w.heap.size + 1 + 1) (by first | omega | (simp; done) | (simp <;> omega))).trans HK27.out
          obtain ⟨u28, v28, x28, y28⟩ := cells_at2 K2
          have HK28 := Lib.hid K2
          clear K2
          have K3 : w8.heap[w.heap.size + 1 + 1 + 1]? = some (.cells #[.int .i64 d1, .int .i64 d2] 37) := (hb8.block (w.heap.size + 1 + 1 + 1) (by first | omega | (simp; done) | (simp <;> omega))).trans HK37.out
          obtain ⟨u38, v38, x38, y38⟩ := cells_at2 K3
          have HK38 := Lib.hid K3
          clear K3
          clear u07 v07 x07 y07 u17 v17 x17 y17 u27 v27 x27 y27 u37 v37 x37 y37 hb8
          cases o1 with
          | true =>
            go_wp2
            go_returns
            have h := hR.out
            first | simp only [k1, k2, Bool.false_and, Bool.true_and, Bool.false_or, Bool.true_or, Bool.and_false, Bool.or_false] at h | simp only [k1, Bool.false_and, Bool.true_and, Bool.false_or, Bool.true_or, Bool.and_false, Bool.or_false] at h
            first | rw [← h] | rw [h]
            exact ⟨rfl, HB8.out⟩
          | false =>
            cases z2 with
            | false =>
              have kz2 : (s2 == 0) = false := hz2
              clear hz2
              cases z3 with
              | false =>
                have kz3 : (s3 == 0) = false := hz3
                clear hz3
                go_wp2
                go_returns
                have h := hR.out
                first | simp only [k1, k2, Bool.false_and, Bool.true_and, Bool.false_or, Bool.true_or, Bool.and_false, Bool.or_false] at h | simp only [k1, Bool.false_and, Bool.true_and, Bool.false_or, Bool.true_or, Bool.and_false, Bool.or_false] at h
                first | rw [← h] | rw [h]
                exact ⟨rfl, HB8.out⟩
              | true =>
                have kz3 : (s3 == 0) = true := hz3
                clear hz3
                go_wp2_with fail
                (go_at_call 77; refine (HO3.out _).mono ?_; rintro e_ w9 ⟨rfl, hb9⟩)
                have HB9 := Lib.hid (below_step (w := w) (by first | assumption | exact HB8.out | go_grown) hb9)
                have hs9 := hb9.size
                have K0 : w9.heap[w.heap.size]? = some (.cells #[.int .i64 a1, .int .i64 a2] 37) := (hb9.block (w.heap.size) (by first | omega | (simp; done) | (simp <;> omega))).trans HK08.out
                obtain ⟨u09, v09, x09, y09⟩ := cells_at2 K0
                have HK09 := Lib.hid K0
                clear K0
                have K1 : w9.heap[w.heap.size + 1]? = some (.cells #[.int .i64 b1, .int .i64 b2] 37) := (hb9.block (w.heap.size + 1) (by first | omega | (simp; done) | (simp <;> omega))).trans HK18.out
                obtain ⟨u19, v19, x19, y19⟩ := cells_at2 K1
                have HK19 := Lib.hid K1
                clear K1
                have K2 : w9.heap[w.heap.size + 1 + 1]? = some (.cells #[.int .i64 c1, .int .i64 c2] 37) := (hb9.block (w.heap.size + 1 + 1) (by first | omega | (simp; done) | (simp <;> omega))).trans HK28.out
                obtain ⟨u29, v29, x29, y29⟩ := cells_at2 K2
                have HK29 := Lib.hid K2
                clear K2
                have K3 : w9.heap[w.heap.size + 1 + 1 + 1]? = some (.cells #[.int .i64 d1, .int .i64 d2] 37) := (hb9.block (w.heap.size + 1 + 1 + 1) (by first | omega | (simp; done) | (simp <;> omega))).trans HK38.out
                obtain ⟨u39, v39, x39, y39⟩ := cells_at2 K3
                have HK39 := Lib.hid K3
                clear K3
                clear u08 v08 x08 y08 u18 v18 x18 y18 u28 v28 x28 y28 u38 v38 x38 y38 hb9
                cases o3 with
                | true =>
                  go_wp2
                  go_returns
                  have h := hR.out
                  first | simp only [k1, k2, Bool.false_and, Bool.true_and, Bool.false_or, Bool.true_or, Bool.and_false, Bool.or_false] at h | simp only [k1, Bool.false_and, Bool.true_and, Bool.false_or, Bool.true_or, Bool.and_false, Bool.or_false] at h
                  first | rw [← h] | rw [h]
                  exact ⟨rfl, HB9.out⟩
                | false =>
                  go_wp2
                  go_returns
                  have h := hR.out
                  first | simp only [k1, k2, Bool.false_and, Bool.true_and, Bool.false_or, Bool.true_or, Bool.and_false, Bool.or_false] at h | simp only [k1, Bool.false_and, Bool.true_and, Bool.false_or, Bool.true_or, Bool.and_false, Bool.or_false] at h
                  first | rw [← h] | rw [h]
                  exact ⟨rfl, HB9.out⟩
            | true =>
              have kz2 : (s2 == 0) = true := hz2
              clear hz2
              go_wp2_with fail
              (go_at_call 77; refine (HO2.out _).mono ?_; rintro e_ w9 ⟨rfl, hb9⟩)
              have HB9 := Lib.hid (below_step (w := w) (by first | assumption | exact HB8.out | go_grown) hb9)
              have hs9 := hb9.size
              have K0 : w9.heap[w.heap.size]? = some (.cells #[.int .i64 a1, .int .i64 a2] 37) := (hb9.block (w.heap.size) (by first | omega | (simp; done) | (simp <;> omega))).trans HK08.out
              obtain ⟨u09, v09, x09, y09⟩ := cells_at2 K0
              have HK09 := Lib.hid K0
              clear K0
              have K1 : w9.heap[w.heap.size + 1]? = some (.cells #[.int .i64 b1, .int .i64 b2] 37) := (hb9.block (w.heap.size + 1) (by first | omega | (simp; done) | (simp <;> omega))).trans HK18.out
              obtain ⟨u19, v19, x19, y19⟩ := cells_at2 K1
              have HK19 := Lib.hid K1
              clear K1
              have K2 : w9.heap[w.heap.size + 1 + 1]? = some (.cells #[.int .i64 c1, .int .i64 c2] 37) := (hb9.block (w.heap.size + 1 + 1) (by first | omega | (simp; done) | (simp <;> omega))).trans HK28.out
              obtain ⟨u29, v29, x29, y29⟩ := cells_at2 K2
              have HK29 := Lib.hid K2
              clear K2
              have K3 : w9.heap[w.heap.size + 1 + 1 + 1]? = some (.cells #[.int .i64 d1, .int .i64 d2] 37) := (hb9.block (w.heap.size + 1 + 1 + 1) (by first | omega | (simp; done) | (simp <;> omega))).trans HK38.out
              obtain ⟨u39, v39, x39, y39⟩ := cells_at2 K3
              have HK39 := Lib.hid K3
              clear K3
              clear u08 v08 x08 y08 u18 v18 x18 y18 u28 v28 x28 y28 u38 v38 x38 y38 hb9
              cases o2 with
              | true =>
                go_wp2
                go_returns
                have h := hR.out
                first | simp only [k1, k2, Bool.false_and, Bool.true_and, Bool.false_or, Bool.true_or, Bool.and_false, Bool.or_false] at h | simp only [k1, Bool.false_and, Bool.true_and, Bool.false_or, Bool.true_or, Bool.and_false, Bool.or_false] at h
                first | rw [← h] | rw [h]
                exact ⟨rfl, HB9.out⟩
              | false =>
                cases z3 with
                | false =>
                  have kz3 : (s3 == 0) = false := hz3
                  clear hz3
                  go_wp2
                  go_returns
                  have h := hR.out
                  first | simp only [k1, k2, Bool.false_and, Bool.true_and, Bool.false_or, Bool.true_or, Bool.and_false, Bool.or_false] at h | simp only [k1, Bool.false_and, Bool.true_and, Bool.false_or, Bool.true_or, Bool.and_false, Bool.or_false] at h
                  first | rw [← h] | rw [h]
                  exact ⟨rfl, HB9.out⟩
                | true =>
                  have kz3 : (s3 == 0) = true := hz3
                  clear hz3
                  go_wp2_with fail
                  (go_at_call 77; refine (HO3.out _).mono ?_; rintro e_ w10 ⟨rfl, hb10⟩)
                  have HB10 := Lib.hid (below_step (w := w) (by first | assumption | exact HB9.out | go_grown) hb10)
                  have hs10 := hb10.size
                  have K0 : w10.heap[w.heap.size]? = some (.cells #[.int .i64 a1, .int .i64 a2] 37) := (hb10.block (w.heap.size) (by first | omega | (simp; done) | (simp <;> omega))).trans HK09.out
                  obtain ⟨u010, v010, x010, y010⟩ := cells_at2 K0
                  have HK010 := Lib.hid K0
                  clear K0
                  have K1 : w10.heap[w.heap.size + 1]? = some (.cells #[.int .i64 b1, .int .i64 b2] 37) := (hb10.block (w.heap.size + 1) (by first | omega | (simp; done) | (simp <;> omega))).trans HK19.out
                  obtain ⟨u110, v110, x110, y110⟩ := cells_at2 K1
                  have HK110 := Lib.hid K1
                  clear K1
                  have K2 : w10.heap[w.heap.size + 1 + 1]? = some (.cells #[.int .i64 c1, .int .i64 c2] 37) := (hb10.block (w.heap.size + 1 + 1) (by first | omega | (simp; done) | (simp <;> omega))).trans HK29.out
                  obtain ⟨u210, v210, x210, y210⟩ := cells_at2 K2
                  have HK210 := Lib.hid K2
                  clear K2
                  have K3 : w10.heap[w.heap.size + 1 + 1 + 1]? = some (.cells #[.int .i64 d1, .int .i64 d2] 37) := (hb10.block (w.heap.size + 1 + 1 + 1) (by first | omega | (simp; done) | (simp <;> omega))).trans HK39.out
                  obtain ⟨u310, v310, x310, y310⟩ := cells_at2 K3
                  have HK310 := Lib.hid K3
                  clear K3
                  clear u09 v09 x09 y09 u19 v19 x19 y19 u29 v29 x29 y29 u39 v39 x39 y39 hb10
                  cases o3 with
                  | true =>
                    go_wp2
                    go_returns
                    have h := hR.out
                    first | simp only [k1, k2, Bool.false_and, Bool.true_and, Bool.false_or, Bool.true_or, Bool.and_false, Bool.or_false] at h | simp only [k1, Bool.false_and, Bool.true_and, Bool.false_or, Bool.true_or, Bool.and_false, Bool.or_false] at h
                    first | rw [← h] | rw [h]
                    exact ⟨rfl, HB10.out⟩
                  | false =>
                    go_wp2
                    go_returns
                    have h := hR.out
                    first | simp only [k1, k2, Bool.false_and, Bool.true_and, Bool.false_or, Bool.true_or, Bool.and_false, Bool.or_false] at h | simp only [k1, Bool.false_and, Bool.true_and, Bool.false_or, Bool.true_or, Bool.and_false, Bool.or_false] at h
                    first | rw [← h] | rw [h]
                    exact ⟨rfl, HB10.out⟩
end Go.Proofs.YtgbhhjdmochhpaaDoor
