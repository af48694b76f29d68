/-
  What ident.IsId and its reference return, by walks. Conditions: a string of at most 2^31 bytes. By an AI agent.
-/
import Derived.Test.YtgbhhjdmochhpaaGreatDoorIdA
import Derived.Test.YtgbhhjdmochhpaaGreatDoorIdentRef
namespace Go.Proofs.YtgbhhjdmochhpaaGreatDoor
open Go Go.RowKit
set_option linter.unusedVariables false
set_option linter.unusedSimpArgs false

theorem sizes_take : ∀ (l : List ByteArray) (j : Nat), j < l.length → sizes (l.take (j + 1)) = sizes (l.take j) + (l.getD j ⟨#[]⟩).size
  | [], j, h => by simp at h
  | p :: l, 0, _ => by simp [sizes]
  | p :: l, j + 1, h => by
    have := sizes_take l j (by simpa using h)
    simp only [List.take_succ_cons, sizes, List.getD_cons_succ]
    omega
theorem sizes_take_le (l : List ByteArray) (j : Nat) : sizes (l.take j) ≤ sizes l := by
  have := sizes_append (l.take j) (l.drop j)
  rw [List.take_append_drop] at this
  omega
theorem all_of {l : List ByteArray} {f : ByteArray → Bool} (h : ∀ k, k < l.length → f (l.getD k ⟨#[]⟩) = true) : l.all f = true := by
  rw [List.all_eq_true]
  intro x hx
  obtain ⟨k, hk, rfl⟩ := List.mem_iff_getElem.1 hx
  have := h k hk
  rwa [List.getD_eq_getElem?_getD, List.getElem?_eq_getElem hk] at this
theorem not_all {l : List ByteArray} {f : ByteArray → Bool} {k : Nat} (hk : k < l.length) (h : f (l.getD k ⟨#[]⟩) = false) : l.all f = false := by
  cases e : l.all f with
  | false => rfl
  | true =>
    have := List.all_eq_true.1 e (l.getD k ⟨#[]⟩) (by rw [List.getD_eq_getElem?_getD, List.getElem?_eq_getElem hk]; exact List.getElem_mem hk)
    rw [h] at this; cases this

set_option maxHeartbeats 2000000 in
theorem names_any (v : Value) (l : List ByteArray) (w : World) (h : StrsAt w v l) (h1 : 1 ≤ l.length) (hs : sizes l + l.length ≤ 65) :
    Calls Tryz.prog 69 #[v] w fun e w' => e = .returned (.bool (decide (l.length ≤ 8) && l.all nameB)) ∧ Below w.heap.size w w' := by
  obtain ⟨oa, cap, rfl, hlen, hsz, hel⟩ := h.form
  obtain ⟨n, hn⟩ : ∃ n, l.length = n := ⟨_, rfl⟩
  have HEL := Lib.hid hel
  have HSZ := Lib.hid hsz
  have HN := Lib.hid hn
  obtain ⟨S, hS⟩ : ∃ S, sizes l = S := ⟨_, rfl⟩
  have HS := Lib.hid hS
  rw [hn] at h1 hs hlen
  rw [hS] at hs
  obtain ⟨R, hR⟩ : ∃ R, (decide (l.length ≤ 8) && l.all nameB) = R := ⟨_, rfl⟩
  have HR := Lib.hid hR
  rw [hR, hn]
  clear h hel hsz hn hS hR
  go_enter Tryz.func69, Tryz.ntmps69
  go_wp2
  go_loopw [3, 11] (fun b i wr => ∃ (j z : Nat), j ≤ n ∧ z ≤ S ∧ i = .int .i64 j ∧ b = .int .i64 ((n : Int) - 1 + z) ∧ Hid (sizes (l.take j) = z ∧ ∀ k, k < j → nameB (l.getD k ⟨#[]⟩) = true) ∧ Below w.heap.size w wr) (fun _ i _ => n - (intOf i).toNat)
  case atStart => exact ⟨0, 0, by omega, by omega, rfl, by simp, ⟨rfl, fun k hk => by omega⟩, Below.refl _ _⟩
  case round =>
    obtain ⟨j, z, hj, hz, rfl, rfl, hq, hb⟩ := hrel
    have HBr := Lib.hid hb
    by_cases hlt : j < n
    · obtain ⟨b, off, rfl, hbl, hcl⟩ := HEL.out j (by rw [HN.out]; exact hlt)
      obtain ⟨p, hp⟩ : ∃ p, l.getD j ⟨#[]⟩ = p := ⟨_, rfl⟩
      have c0 : wr.cell? ⟨b, off + j, none⟩ = some (.string p) := by rw [← hp]; exact (hb.cell (p := ⟨_, _, none⟩) hbl).trans (hcl j (by rw [HN.out]; exact hlt))
      have hps : p.size ≤ 4294967296 := by rw [← hp]; exact HSZ.out j (by rw [HN.out]; exact hlt)
      have hbr : b < wr.heap.size := by have := hb.size; omega
      have hz2 : z + p.size ≤ S := by
        have h2 := sizes_take l j (by rw [HN.out]; exact hlt)
        rw [hp, hq.out.1] at h2
        have h3 := sizes_take_le l (j + 1)
        rw [HS.out] at h3
        omega
      clear hcl hb
      by_cases hN : nameB p = true
      · have hq2 : Hid (sizes (l.take (j + 1)) = z + p.size ∧ ∀ k, k < j + 1 → nameB (l.getD k ⟨#[]⟩) = true) := by
          refine ⟨?_, fun k hk => ?_⟩
          · rw [sizes_take l j (by rw [HN.out]; exact hlt), hp, hq.out.1]
          · by_cases e : k = j
            · subst e; rw [hp]; exact hN
            · exact hq.out.2 k (by omega)
        clear hp
        go_wp2_with fail
        (go_at_call 95; refine (isName_any _ _ (by omega)).mono ?_; rintro e w1 ⟨rfl, hB⟩)
        rw [hN]
        have HB1 := Lib.hid (below_step HBr.out hB)
        clear hB hN
        go_wp2
        go_roundw
        case rel => exact ⟨j + 1, z + p.size, by omega, by omega, by go_num, by go_num, hq2, HB1.out⟩
        case measure => simp [intOf]; omega
      · have hN : nameB p = false := by simpa using hN
        have hr : R = false := by rw [← HR.out, not_all (by rw [HN.out]; exact hlt) (hp ▸ hN), Bool.and_false]
        have HR0 := Lib.hid hr
        clear hp hr
        go_wp2_with fail
        (go_at_call 95; refine (isName_any _ _ (by omega)).mono ?_; rintro e w1 ⟨rfl, hB⟩)
        rw [hN]
        have HB1 := Lib.hid (below_step HBr.out hB)
        clear hB hN
        go_wp2
        go_returns
        rw [HR0.out]
        exact ⟨rfl, HB1.out⟩
    · have hjn : j = n := by omega
      subst hjn
      have hall : l.all nameB = true := all_of fun k hk => hq.out.2 k (by rw [← HN.out]; exact hk)
      have k9 : decide ((j : Int) - 1 + z ≤ 64) = true := decide_eq_true (by omega)
      have hr : R = decide (j ≤ 8) := by rw [← HR.out, hall, HN.out, Bool.and_true]
      have HR0 := Lib.hid hr
      clear hb hall hr
      by_cases h8 : j ≤ 8
      · have k8 : Hid (decide (j ≤ 8) = true) := decide_eq_true h8
        go_wp2
        go_returns
        rw [HR0.out, k8.out]
        exact ⟨rfl, HBr.out⟩
      · have k8 : Hid (decide (j ≤ 8) = false) := decide_eq_false h8
        go_wp2
        go_returns
        rw [HR0.out, k8.out]
        exact ⟨rfl, HBr.out⟩
theorem strs_new (w : World) (l : List ByteArray) (t : TypeId) (hl : l.length ≤ 4294967296) (hp : ∀ p ∈ l, p.size ≤ 4294967296) : StrsAt (w.alloc (.cells (l.map Value.string).toArray t)) (.slice (some ⟨w.heap.size, 0, none⟩) l.length l.length) l := by
  refine ⟨⟨_, _, rfl, Nat.le_refl _, by omega, fun _ => ⟨_, 0, rfl, by simp, fun i j hi hj => ?_⟩⟩, hl, hp⟩
  have : j = 0 := by omega
  subst this
  simp [go_sem, hi]
theorem mem_sizes : ∀ {l : List ByteArray} {p : ByteArray}, p ∈ l → p.size ≤ sizes l
  | [], _, h => by cases h
  | q :: l, p, h => by
    rcases List.mem_cons.1 h with rfl | h
    · simp [sizes]
    · have := mem_sizes h; simp only [sizes]; omega
set_option maxHeartbeats 2000000 in
theorem isId_any (s : ByteArray) (w : World) (hs : s.size ≤ 9223372036854775807) (hm : MaxLenIs w) :
    Calls Tryz.prog 29 #[.string s] w fun e w' => e = .returned (.bool (idB s)) ∧ Below w.heap.size w w' := by
  have HM := Lib.hid hm
  clear hm
  obtain ⟨R, hR⟩ : ∃ R, idB s = R := ⟨_, rfl⟩
  rw [hR]
  unfold idB at hR
  by_cases h64 : s.size ≤ 64
  · have hR2 : Hid ((decide ((pieces s).length ≤ 8) && (pieces s).all nameB) = R) := by show _ = R; rw [← hR, decide_eq_true h64, Bool.true_and]
    have hz := pieces_sizes s
    have hl1 : 1 ≤ (pieces s).length := (partsR_len s s.size 0 0).1
    have HP : Hid (StrsAt (w.alloc (.cells ((Lib.splitB dot 0 (Lib.countB s dot) s).map Value.string).toArray 9)) (.slice (some ⟨w.heap.size, 0, none⟩) (Lib.countB s dot + 1) (Lib.countB s dot + 1)) (pieces s)) := by
      rw [split_pieces, ← pieces_len]
      exact strs_new _ _ _ (by omega) (fun p hp => by have := mem_sizes hp; omega)
    clear hR
    go_enter Tryz.func29, Tryz.ntmps29
    go_wp2_with fail
    (go_at_call 70; refine (split_any _ _ _ (by omega) HM.out (by decide)).mono ?_; rintro e w1 ⟨rfl, hw1⟩)
    have HP1 : Hid (StrsAt w1 (.slice (some ⟨w.heap.size, 0, none⟩) (Lib.countB s dot + 1) (Lib.countB s dot + 1)) (pieces s)) := by rw [hw1]; exact HP.out
    have hB1 : Below w.heap.size w w1 := by rw [hw1]; exact (Below.refl _ _).alloc (Nat.le_refl _) _
    have HB1 := Lib.hid hB1
    clear hw1 hB1 HP
    go_wp2_with fail
    (go_at_call 69; refine (names_any _ _ _ HP1.out hl1 (by omega)).mono ?_; rintro e w2 ⟨rfl, hB⟩)
    rw [hR2.out]
    have HB2 := Lib.hid (below_step HB1.out hB)
    clear hB
    go_wp2
    go_returns
    exact ⟨rfl, HB2.out⟩
  · have hR2 : Hid (R = false) := by show R = false; rw [← hR, decide_eq_false h64, Bool.false_and, Bool.false_and]
    clear hR
    go_enter Tryz.func29, Tryz.ntmps29
    go_wp2
    go_returns
    rw [hR2.out]
    exact ⟨rfl, by go_grown⟩

theorem info_string : (Tryz.prog.info? 9).map (fun i => (i.zero, i.size, i.bytes)) = some (some (.string ⟨#[]⟩), 1, 16) := by kernel_rfl
set_option maxHeartbeats 4000000 in
theorem parts_any (s : ByteArray) (w : World) (hs : s.size ≤ 2147483648) :
    Calls Tryz.prog 36 #[.string s] w fun e w' => ∃ v, e = .returned v ∧ StrsAt w' v (pieces s) ∧ Below w.heap.size w w' := by
  have hst : Tryz.prog.underlying 9 = some .string := Tryz.underlying9
  obtain ⟨i0, hi, hz0, hz1, hz2⟩ := info_parts info_string
  have HLP : Hid ((pieces s).length ≤ s.size + 1 ∧ ∀ p ∈ pieces s, p.size ≤ s.size + 1) := ⟨(partsR_len s s.size 0 0).2, fun p hp => by have h1 := mem_sizes hp; have h2 := pieces_sizes s; omega⟩
  go_enter Tryz.func36, Tryz.ntmps36
  go_wp2
  go_loopw [3, 4, 5] (fun v f i wr => ∃ (k fr : Nat) (l : List ByteArray), k ≤ s.size + 1 ∧ fr ≤ k ∧ i = .int .i64 k ∧ f = .int .i64 fr ∧ l.length ≤ k ∧ Hid ((k ≤ s.size → l ++ partsR s (s.size - k) fr k = pieces s) ∧ (k = s.size + 1 → l = pieces s)) ∧ wr.ownsRow w.heap.size 9 1 v l.length (l.map Value.string) ∧ Below w.heap.size w wr) (fun _ _ i _ => s.size + 1 - (intOf i).toNat)
  case atStart => exact ⟨0, 0, [], by omega, by omega, rfl, rfl, by simp, ⟨fun _ => rfl, fun h => by omega⟩, World.ownsRow_nil _ _ _ _, Below.refl _ _⟩
  case round =>
    obtain ⟨k, fr, l, hk, hfr, rfl, rfl, hlk, hq, hown, hb⟩ := hrel
    have HBr := Lib.hid hb
    have HO := Lib.hid hown
    clear hb hown
    by_cases hlt : k ≤ s.size
    · have hq1 := hq.out.1 hlt
      have HQ := Lib.hid hq1
      clear hq hq1
      have k1 : IntKind.i64.wrap ((k : Int) + 1) = (k : Int) + 1 := IntWalk.i64_in _ (by omega)
      by_cases he : k = s.size
      · subst he
        have hq2 : l ++ [s.extract fr s.size] = pieces s := by have := HQ.out; rw [Nat.sub_self] at this; exact this
        have HQ2 := Lib.hid hq2
        clear hq2
        go_wp2_with (first | (at_builtin; refine wpList_append_own _ rfl _ _ 72 rfl w.heap.size 9 i0 (.string ⟨#[]⟩) 1 16 Tryz.underlying72 hi hz0 hz1 hz2 rfl (by decide) _ _ _ rfl (HO.out.alloc _) ⟨wr.heap.size, 0, none⟩ 1 1 [(.string (s.extract fr s.size))] rfl rfl ?c1 ?c2 ?c3 ?c4 ?c5 ?_) | go_in)
        case c1 =>
          intro j u hj
          match j, hj with
          | 0, hj =>
            simp at hj
            subst hj
            simp [Addr.add]
            try rfl
        case c2 => intro u hu; simp at hu; subst hu; rfl
        case c3 => unfold maxLen; omega
        case c4 => omega
        case c5 => have := HBr.out.size; simp; omega
        intro v' w7 hown' hgrow _
        have hB7 : Below w.heap.size w w7 := Below.grown (HBr.out.alloc HBr.out.size _) hgrow (by have := HBr.out.size; first | omega | (simp; omega)) (fun q hq => owns_new HO.out q hq)
        have HB7 := Lib.hid hB7
        have HO7 : Hid (w7.ownsRow w.heap.size 9 1 v' (l ++ [s.extract fr s.size]).length ((l ++ [s.extract fr s.size]).map Value.string)) := by
          show w7.ownsRow _ _ _ _ _ _
          rw [List.length_append, List.map_append]
          exact hown'
        clear hown' hgrow hB7
        go_wp2
        go_roundw
        case rel => exact ⟨s.size + 1, s.size + 1, l ++ [s.extract fr s.size], by omega, by omega, by go_num, by go_num, by (simp <;> omega), ⟨fun h => by omega, fun _ => HQ2.out⟩, HO7.out, HB7.out⟩
        case measure => (simp [intOf] <;> omega)
      have hkl : k < s.size := by omega
      have hke : ((k : Int) == s.size) = false := by (simp <;> omega)
      obtain ⟨c, hc⟩ : ∃ c, byteAt s k = c := ⟨_, rfl⟩
      have hix := fun W => index_byte 9 hst s k c hkl hc W
      by_cases hd : c = 46
      · subst hd
        have hq2 : (l ++ [s.extract fr k]) ++ partsR s (s.size - (k + 1)) (k + 1) (k + 1) = pieces s := by
          rw [← HQ.out, show s.size - k = (s.size - (k + 1)) + 1 by omega]
          conv => rhs; unfold partsR
          rw [if_pos hc, List.append_assoc, List.singleton_append]
        have HQ2 := Lib.hid hq2
        clear hq2 hc he
        go_wp2_with (first | (at_builtin; refine wpList_append_own _ rfl _ _ 72 rfl w.heap.size 9 i0 (.string ⟨#[]⟩) 1 16 Tryz.underlying72 hi hz0 hz1 hz2 rfl (by decide) _ _ _ rfl (HO.out.alloc _) ⟨wr.heap.size, 0, none⟩ 1 1 [(.string (s.extract fr k))] rfl rfl ?c1 ?c2 ?c3 ?c4 ?c5 ?_) | go_in)
        case c1 =>
          intro j u hj
          match j, hj with
          | 0, hj =>
            simp at hj
            subst hj
            simp [Addr.add]
            try rfl
        case c2 => intro u hu; simp at hu; subst hu; rfl
        case c3 => unfold maxLen; omega
        case c4 => omega
        case c5 => have := HBr.out.size; simp; omega
        intro v' w7 hown' hgrow _
        have hB7 : Below w.heap.size w w7 := Below.grown (HBr.out.alloc HBr.out.size _) hgrow (by have := HBr.out.size; first | omega | (simp; omega)) (fun q hq => owns_new HO.out q hq)
        have HB7 := Lib.hid hB7
        have HO7 : Hid (w7.ownsRow w.heap.size 9 1 v' (l ++ [s.extract fr k]).length ((l ++ [s.extract fr k]).map Value.string)) := by
          show w7.ownsRow _ _ _ _ _ _
          rw [List.length_append, List.map_append]
          exact hown'
        clear hown' hgrow hB7
        go_wp2
        go_roundw
        case rel => exact ⟨k + 1, k + 1, l ++ [s.extract fr k], by omega, by omega, by go_num, by go_num, by (simp <;> omega), ⟨fun _ => HQ2.out, fun h => by omega⟩, HO7.out, HB7.out⟩
        case measure => simp [intOf]; omega
      · have hq2 : l ++ partsR s (s.size - (k + 1)) fr (k + 1) = pieces s := by
          rw [← HQ.out, show s.size - k = (s.size - (k + 1)) + 1 by omega]
          conv => rhs; unfold partsR
          rw [if_neg (by rw [hc]; exact hd)]
        have HQ2 := Lib.hid hq2
        have hd2 : ((c : Int) == 46) = false := by simp; omega
        clear hq2 hc he hd
        go_wp2
        go_roundw
        case rel => exact ⟨k + 1, fr, l, by omega, by omega, by go_num, rfl, by omega, ⟨fun _ => HQ2.out, fun h => by omega⟩, HO.out, HBr.out⟩
        case measure => simp [intOf]; omega
    · have hq1 := hq.out.2 (by omega)
      have HQ := Lib.hid hq1
      clear hq hq1
      go_wp2
      go_returns
      refine ⟨_, rfl, ?_, HBr.out⟩
      have hl := HLP.out
      rw [← HQ.out] at hl ⊢
      exact ⟨owns_slice HO.out _ (by decide) (fun i j hi hj => by
        have : j = 0 := by omega
        subst this
        simp [hi]), by omega, fun p hp => by have := hl.2 p hp; omega⟩
set_option maxHeartbeats 4000000 in
theorem rIsId_any (s : ByteArray) (w : World) (hs : s.size ≤ 2147483648) :
    Calls Tryz.prog 10 #[.string s] w fun e w' => e = .returned (.bool (idB s)) ∧ Below w.heap.size w w' := by
  obtain ⟨R, hR⟩ : ∃ R, idB s = R := ⟨_, rfl⟩
  have HR : Hid ((decide (s.size ≤ 64) && decide ((pieces s).length ≤ 8) && (pieces s).all nameB) = R) := hR
  rw [hR]
  clear hR
  obtain ⟨l, hl⟩ : ∃ l, pieces s = l := ⟨_, rfl⟩
  rw [hl] at HR
  have HL := Lib.hid hl
  clear hl
  go_enter Tryz.func10, Tryz.ntmps10
  go_wp2_with fail
  (go_at_call 36; refine (parts_any _ _ hs).mono ?_; rintro e w1 ⟨v, rfl, hv, hb⟩)
  rw [HL.out] at hv
  obtain ⟨oa, cap, rfl, hlen, hsz, hel⟩ := hv.form
  obtain ⟨n, hn⟩ : ∃ n, l.length = n := ⟨_, rfl⟩
  rw [hn] at HR hlen
  have HEL := Lib.hid hel
  have HSZ := Lib.hid hsz
  have HN := Lib.hid hn
  have HB1 := Lib.hid hb
  rw [hn]
  clear hv hel hsz hn hb
  by_cases h64 : s.size ≤ 64
  · have k64 : decide (64 < (s.size : Int)) = false := decide_eq_false (by omega)
    by_cases h8 : n ≤ 8
    · have k8 : decide (8 < (n : Int)) = false := decide_eq_false (by omega)
      have HR1 : Hid (l.all nameB = R) := by show _ = R; rw [← HR.out, decide_eq_true h64, decide_eq_true h8]; rfl
      go_wp2
      go_loopw [4] (fun i wr => ∃ j : Nat, j ≤ n ∧ i = .int .i64 j ∧ Hid (∀ k, k < j → nameB (l.getD k ⟨#[]⟩) = true) ∧ Below w1.heap.size w1 wr) (fun i _ => n - (intOf i).toNat)
      case atStart => exact ⟨0, by omega, rfl, fun k hk => by omega, Below.refl _ _⟩
      case round =>
        obtain ⟨j, hj, rfl, hq, hb⟩ := hrel
        have HBr := Lib.hid hb
        by_cases hlt : j < n
        · obtain ⟨b, off, rfl, hbl, hcl⟩ := HEL.out j (by rw [HN.out]; exact hlt)
          obtain ⟨p, hp⟩ : ∃ p, l.getD j ⟨#[]⟩ = p := ⟨_, rfl⟩
          have c0 : wr.cell? ⟨b, off + j, none⟩ = some (.string p) := by rw [← hp]; exact (hb.cell (p := ⟨_, _, none⟩) hbl).trans (hcl j (by rw [HN.out]; exact hlt))
          have hps : p.size ≤ 4294967296 := by rw [← hp]; exact HSZ.out j (by rw [HN.out]; exact hlt)
          have hbr : b < wr.heap.size := by have := hb.size; omega
          clear hcl hb
          by_cases hN : nameB p = true
          · have hq2 : Hid (∀ k, k < j + 1 → nameB (l.getD k ⟨#[]⟩) = true) := fun k hk => by
              by_cases e : k = j
              · subst e; rw [hp]; exact hN
              · exact hq.out k (by omega)
            clear hp
            go_wp2_with fail
            (go_at_call 37; refine (rIsName_any _ _ (by omega)).mono ?_; rintro e w2 ⟨rfl, hB⟩)
            rw [hN]
            have HB2 := Lib.hid (below_step HBr.out hB)
            clear hB hN
            go_wp2
            go_roundw
            case rel => exact ⟨j + 1, by omega, by go_num, hq2, HB2.out⟩
            case measure => simp [intOf]; omega
          · have hN : nameB p = false := by simpa using hN
            have hr : R = false := by rw [← HR1.out, not_all (by rw [HN.out]; exact hlt) (hp ▸ hN)]
            have HR0 := Lib.hid hr
            clear hp hr
            go_wp2_with fail
            (go_at_call 37; refine (rIsName_any _ _ (by omega)).mono ?_; rintro e w2 ⟨rfl, hB⟩)
            rw [hN]
            have HB2 := Lib.hid (below_step HBr.out hB)
            clear hB hN
            go_wp2
            go_returns
            rw [HR0.out]
            exact ⟨rfl, below_step HB1.out HB2.out⟩
        · have hr : R = true := by rw [← HR1.out]; exact all_of fun k hk => hq.out k (by rw [HN.out] at hk; omega)
          have HR0 := Lib.hid hr
          clear hr hb
          go_wp2
          go_returns
          rw [HR0.out]
          exact ⟨rfl, below_step HB1.out HBr.out⟩
    · have k8 : decide (8 < (n : Int)) = true := decide_eq_true (by omega)
      have HR0 : Hid (R = false) := by show R = false; rw [← HR.out, decide_eq_false h8, Bool.and_false, Bool.false_and]
      go_wp2
      go_returns
      rw [HR0.out]
      exact ⟨rfl, HB1.out⟩
  · have k64 : decide (64 < (s.size : Int)) = true := decide_eq_true (by omega)
    have HR0 : Hid (R = false) := by show R = false; rw [← HR.out, decide_eq_false h64, Bool.false_and, Bool.false_and]
    go_wp2
    go_returns
    rw [HR0.out]
    exact ⟨rfl, HB1.out⟩
end Go.Proofs.YtgbhhjdmochhpaaGreatDoor
