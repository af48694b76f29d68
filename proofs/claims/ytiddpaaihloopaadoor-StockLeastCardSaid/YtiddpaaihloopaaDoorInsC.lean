/-
  slices.Insert and slices.Delete of one element at plates and bars, by walks. Conditions: a row of the caller's own, at most 10^6 elements. By an AI agent.
-/
import Derived.Test.YtiddpaaihloopaaDoorInsB
namespace Go.Proofs.YtiddpaaihloopaaDoor
open Go Go.RowKit
set_option linter.unusedVariables false
set_option linter.unusedSimpArgs false

/-- slices.Insert of one element -/
theorem insert_Sheet (B : Nat) (v : Value) (n i : Nat) (xs ys : List Value) (g1 : Nat) (w : World) (hB : B ≤ w.heap.size) (ho : w.ownsRow B 38 6 v n xs) (hg1 : w.heap[g1]? = some (.cells ys.toArray 38 (0, 0)))
    (hi : i ≤ n) (hy : ys.length = 6) (h1y : ∀ u ∈ ys, u.oneCell' = true) (h1x : ∀ u ∈ xs, u.oneCell' = true) (hn : n ≤ 1000000) :
    Calls Tryd.prog 55 #[v, .int .i64 i, .slice (some ⟨g1, 0, none⟩) 1 1] w fun e w' => ∃ v', e = .returned v' ∧ w'.ownsRow B 38 6 v' (n + 1) (xs.take (i * 6) ++ (ys ++ xs.drop (i * 6))) ∧ Below B w w' := by
  have hxl := ho.1
  by_cases h : i = n
  · subst h
    have e : xs.take (i * 6) ++ (ys ++ xs.drop (i * 6)) = xs ++ ys := by rw [List.take_of_length_le (by omega), List.drop_of_length_le (by omega), List.append_nil]
    rw [e]
    exact insEnd_Sheet B v i xs ys g1 w hB ho hg1 hy h1y hn
  · rcases ho.2 with ⟨rfl, h0⟩ | ⟨g, c, cur, rfl, hb, hg, hnc, hcm, hcs, htk⟩
    · omega
    · by_cases hr : n + 1 ≤ c
      · have hne' : g1 ≠ g := fun e => by
          subst e
          rw [hg] at hg1
          have h2 : cur.size = ys.length := by
            have h3 := Option.some.inj hg1
            injection h3 with h4
            rw [h4]; simp
          omega
        exact insRoom_Sheet B g n c i cur.toList xs ys g1 w hb (by simpa using hg) hg1 hne' (by simpa using hcs) htk hr hcm (by omega) hy h1y h1x hn
      · have hcn : c = n := by omega
        subst hcn
        have hcx : cur.toList = xs := by rw [← htk, List.take_of_length_le (by simp [hcs])]
        exact insGrow_Sheet B g c i xs ys g1 w hB (by rw [← hcx]; simpa using hg) hg1 hxl (by omega) hy h1y h1x hn

theorem zeroOf_Sheet : ∀ w, (zeroValue 38).run Tryd.prog w = .ok (.agg #[.string ⟨#[]⟩, .string ⟨#[]⟩, .int .i64 0, .int .i64 0, .int .i64 0, .string ⟨#[]⟩]) w := Tryd.zeroValue38
set_option maxHeartbeats 4000000 in
set_option maxRecDepth 100000 in
/-- slices.Delete of one element; m elements stand behind it -/
theorem delRow_Sheet (B g c i m : Nat) (cur xs : List Value) (w : World) (hB : B ≤ g) (hg : w.heap[g]? = some (.cells cur.toArray 38 (0, 0)))
    (hcur : cur.length = c * 6) (hx : cur.take ((i + 1 + m) * 6) = xs) (hc : i + 1 + m ≤ c) (hcm : c ≤ maxLen) (hci : ¬ (c = i + 1)) (h1x : ∀ u ∈ xs, u.oneCell' = true) (hn : i + 1 + m ≤ 1000000) :
    Calls Tryd.prog 58 #[.slice (some ⟨g, 0, none⟩) (i + 1 + m) c, .int .i64 i, .int .i64 ((i : Int) + 1)] w fun e w' => ∃ v', e = .returned v' ∧ w'.ownsRow B 38 6 v' (i + m) (xs.take (i * 6) ++ xs.drop ((i + 1) * 6)) ∧ Below B w w' := by
  have hu : Tryd.prog.underlying 22 = some (.slice 38) := Tryd.underlying22
  obtain ⟨i0, hi0, hz0, hz1, hz2⟩ := info_parts info_Sheet
  have hzv := zeroOf_Sheet
  have hzc : ((.agg #[.string ⟨#[]⟩, .string ⟨#[]⟩, .int .i64 0, .int .i64 0, .int .i64 0, .string ⟨#[]⟩] : Value)).cells.size = 6 := rfl
  have hz1c : ∀ v ∈ ((.agg #[.string ⟨#[]⟩, .string ⟨#[]⟩, .int .i64 0, .int .i64 0, .int .i64 0, .string ⟨#[]⟩] : Value)).cells, v.oneCell' = true := by
    intro v hv
    simp [Value.cells] at hv
    rcases hv with rfl | rfl | rfl | rfl | rfl | rfl <;> rfl
  have hxl : xs.length = (i + 1 + m) * 6 := by rw [← hx, List.length_take, hcur]; omega
  have hdl : (xs.drop ((i + 1) * 6)).length = m * 6 := by rw [List.length_drop, hxl]; omega
  have htl : (xs.take (i * 6)).length = i * 6 := by rw [List.length_take, hxl]; omega
  have HG := Lib.hid hg
  have hsx : ∀ j u, (xs.drop ((i + 1) * 6))[j]? = some u → w.drew.cell? ⟨g, (i + 1) * 6 + j, none⟩ = some u := fun j u hj => by
    show w.cell? _ = _
    rw [cell_of_row w g _ _ _ (0, 0) HG.out]
    rw [List.getElem?_drop, ← hx, List.getElem?_take] at hj
    split at hj
    · simpa using hj
    · cases hj
  have HSX := Lib.hid hsx
  have H1D : Hid (∀ u ∈ xs.drop ((i + 1) * 6), u.oneCell' = true) := fun u hu => h1x u (List.mem_of_mem_drop hu)
  have HC := Lib.hid hcur
  have hF : ∀ w' : World, w'.heap[g]? = some (.cells ((splice cur (i * 6) (xs.drop ((i + 1) * 6))).toArray.toList.take ((i + m) * 6) ++ ((Builtin.zeroCells ((.agg #[.string ⟨#[]⟩, .string ⟨#[]⟩, .int .i64 0, .int .i64 0, .int .i64 0, .string ⟨#[]⟩] : Value)).cells 1).toList ++ (splice cur (i * 6) (xs.drop ((i + 1) * 6))).toArray.toList.drop ((i + m) * 6 + 1 * 6))).toArray 38 (0, 0)) → Hid (w'.ownsRow B 38 6 (.slice (some ⟨g, 0, none⟩) (i + m) c) (i + m) (xs.take (i * 6) ++ xs.drop ((i + 1) * 6))) := fun w' h => by
    have h1 : (splice cur (i * 6) (xs.drop ((i + 1) * 6))).length = c * 6 := by rw [length_splice _ _ _ (by rw [hdl, hcur]; omega), hcur]
    have e1 : cur.take (i * 6) = xs.take (i * 6) := by rw [← hx, List.take_take, Nat.min_eq_left (by omega)]
    have l1 : (xs.take (i * 6) ++ xs.drop ((i + 1) * 6)).length = (i + m) * 6 := by rw [List.length_append, htl, hdl]; omega
    have e2 : (splice cur (i * 6) (xs.drop ((i + 1) * 6))).take ((i + m) * 6) = xs.take (i * 6) ++ xs.drop ((i + 1) * 6) := by
      unfold splice
      rw [e1, ← List.append_assoc, List.take_append_of_le_length (by rw [l1]; omega), List.take_of_length_le (by rw [l1]; omega)]
    refine ⟨l1, .inr ⟨g, c, _, rfl, hB, h, by omega, hcm, ?_, ?_⟩⟩
    · simp only [List.size_toArray, List.length_append, List.length_take, List.length_drop, h1, Array.length_toList, size_zeroCells, hzc]
      omega
    · simp only []
      rw [List.take_append_of_le_length (by rw [List.length_take, h1]; omega), List.take_take, Nat.min_self, e2]
  have HF := Lib.hid hF
  have k1 : ((i : Int) == (i : Int) + 1) = false := by simp; omega
  have b1 : (0 : Int) ≤ (i : Int) + 1 := by omega
  have b2 : ((i : Int) + 1).toNat = i + 1 := by omega
  have b3 : (i : Int) ≤ (i : Int) + 1 := by omega
  have b4 : (i : Int) + 1 ≤ (i : Int) + 1 + (m : Int) := by omega
  have b5 : i + 1 ≤ i + 1 + m := by omega
  have b6 : i ≤ i + 1 := by omega
  have b7 : ¬ (c = i) := by omega
  have b8 : ¬ (c = i + m) := by omega
  have b9 : i + 1 + m ≤ c := by omega
  have b10 : i + m ≤ i + 1 + m := by omega
  have b11 : i ≤ c := by omega
  have hlen : i + 1 + m - (i + m) = 1 := by omega
  have hlen2 : i + 1 + m - (i + 1) = m := by omega
  clear hg hx h1x hcur hsx hF
  go_enter Tryd.func58, Tryd.ntmps58
  go_wp2_with fail
  go_region_law (refine step_appendK rfl (.tmp 22) (.tmp 25) 22 rfl 38 i0 6 hu hi0 hz1 g i c (by simp [Act.eval, Act.put]) ⟨g, (i + 1) * 6, none⟩ m (c - (i + 1)) (xs.drop ((i + 1) * 6)) (by simp [Act.eval, Act.put]) (by rw [hdl]) cur HG.out (fun j u hj => by rw [Addr.add_lit]; exact HSX.out j u hj) H1D.out (by omega) (by rw [hdl, HC.out]; omega) g w (below_drew1 _ _) (Nat.le_refl _) ?_; intro w4 hg4 hs4 hb4)
  clear hs4
  go_wp2_with (refine wpList_clearK rfl _ 22 rfl 38 _ 6 hu hzv hzc hz1c g ((i + m) * 6) 1 (c - (i + m)) ?d1 ?d2 _ 38 hg4.out ?d3 g w hb4 (Nat.le_refl _) ?_)
  case d1 => simp [Act.eval, Act.put, hlen]
  case d2 => omega
  case d3 => simp only [List.size_toArray]; rw [length_splice _ _ _ (by rw [hdl, HC.out]; omega), HC.out]; omega
  intro w5 hg5 hs5 hb5
  clear hs5
  have HF5 := HF.out w5 hg5.out
  go_wp2
  go_returns
  exact ⟨_, rfl, HF5.out, hb5.mono hB⟩
set_option maxHeartbeats 4000000 in
set_option maxRecDepth 100000 in
/-- slices.Delete of one element; nothing stands behind it, nor is there room -/
theorem delLast_Sheet (B g i : Nat) (cur xs : List Value) (w : World) (hB : B ≤ g) (hg : w.heap[g]? = some (.cells cur.toArray 38 (0, 0)))
    (hcur : cur.length = (i + 1) * 6) (hx : cur.take ((i + 1) * 6) = xs) (h1x : ∀ u ∈ xs, u.oneCell' = true) (hn : i + 1 ≤ 1000000) :
    Calls Tryd.prog 58 #[.slice (some ⟨g, 0, none⟩) (i + 1) (i + 1), .int .i64 i, .int .i64 ((i : Int) + 1)] w fun e w' => ∃ v', e = .returned v' ∧ w'.ownsRow B 38 6 v' i (xs.take (i * 6) ++ xs.drop ((i + 1) * 6)) ∧ Below B w w' := by
  have hu : Tryd.prog.underlying 22 = some (.slice 38) := Tryd.underlying22
  obtain ⟨i0, hi0, hz0, hz1, hz2⟩ := info_parts info_Sheet
  have hzv := zeroOf_Sheet
  have hzc : ((.agg #[.string ⟨#[]⟩, .string ⟨#[]⟩, .int .i64 0, .int .i64 0, .int .i64 0, .string ⟨#[]⟩] : Value)).cells.size = 6 := rfl
  have hz1c : ∀ v ∈ ((.agg #[.string ⟨#[]⟩, .string ⟨#[]⟩, .int .i64 0, .int .i64 0, .int .i64 0, .string ⟨#[]⟩] : Value)).cells, v.oneCell' = true := by
    intro v hv
    simp [Value.cells] at hv
    rcases hv with rfl | rfl | rfl | rfl | rfl | rfl <;> rfl
  have hxl : xs.length = (i + 1) * 6 := by rw [← hx, List.length_take, hcur]; omega
  have hdl : (xs.drop ((i + 1) * 6)).length = 0 * 6 := by rw [List.length_drop, hxl]; omega
  have htl : (xs.take (i * 6)).length = i * 6 := by rw [List.length_take, hxl]; omega
  have HG := Lib.hid hg
  have hsx : ∀ j u, (xs.drop ((i + 1) * 6))[j]? = some u → w.drew.cell? ⟨g, (i + 1) * 6 + j, none⟩ = some u := fun j u hj => by
    show w.cell? _ = _
    rw [cell_of_row w g _ _ _ (0, 0) HG.out]
    rw [List.getElem?_drop, ← hx, List.getElem?_take] at hj
    split at hj
    · simpa using hj
    · cases hj
  have HSX := Lib.hid hsx
  have H1D : Hid (∀ u ∈ xs.drop ((i + 1) * 6), u.oneCell' = true) := fun u hu => h1x u (List.mem_of_mem_drop hu)
  have HC := Lib.hid hcur
  have hF : ∀ w' : World, w'.heap[g]? = some (.cells ((splice cur (i * 6) (xs.drop ((i + 1) * 6))).toArray.toList.take (i * 6) ++ ((Builtin.zeroCells ((.agg #[.string ⟨#[]⟩, .string ⟨#[]⟩, .int .i64 0, .int .i64 0, .int .i64 0, .string ⟨#[]⟩] : Value)).cells 1).toList ++ (splice cur (i * 6) (xs.drop ((i + 1) * 6))).toArray.toList.drop (i * 6 + 1 * 6))).toArray 38 (0, 0)) → Hid (w'.ownsRow B 38 6 (.slice (some ⟨g, 0, none⟩) i (i + 1)) i (xs.take (i * 6) ++ xs.drop ((i + 1) * 6))) := fun w' h => by
    have h1 : (splice cur (i * 6) (xs.drop ((i + 1) * 6))).length = (i + 1) * 6 := by rw [length_splice _ _ _ (by rw [hdl, hcur]; omega), hcur]
    have e1 : cur.take (i * 6) = xs.take (i * 6) := by rw [← hx, List.take_take, Nat.min_eq_left (by omega)]
    have l1 : (xs.take (i * 6) ++ xs.drop ((i + 1) * 6)).length = i * 6 := by rw [List.length_append, htl, hdl]; omega
    have e2 : (splice cur (i * 6) (xs.drop ((i + 1) * 6))).take (i * 6) = xs.take (i * 6) ++ xs.drop ((i + 1) * 6) := by
      unfold splice
      rw [e1, ← List.append_assoc, List.take_append_of_le_length (by rw [l1]; omega), List.take_of_length_le (by rw [l1]; omega)]
    refine ⟨l1, .inr ⟨g, i + 1, _, rfl, hB, h, by omega, (by unfold maxLen; omega), ?_, ?_⟩⟩
    · simp only [List.size_toArray, List.length_append, List.length_take, List.length_drop, h1, Array.length_toList, size_zeroCells, hzc]
      omega
    · simp only []
      rw [List.take_append_of_le_length (by rw [List.length_take, h1]; omega), List.take_take, Nat.min_self, e2]
  have HF := Lib.hid hF
  have k1 : ((i : Int) == (i : Int) + 1) = false := by simp; omega
  have b1 : (0 : Int) ≤ (i : Int) + 1 := by omega
  have b2 : ((i : Int) + 1).toNat = i + 1 := by omega
  have b3 : (i : Int) ≤ (i : Int) + 1 := by omega
  have b6 : i ≤ i + 1 := by omega
  have b10 : i ≤ i + 1 := by omega
  have hlen : i + 1 - i = 1 := by omega
  clear hg hx h1x hcur hsx hF
  go_enter Tryd.func58, Tryd.ntmps58
  go_wp2_with fail
  go_region_law (refine step_appendK rfl (.tmp 22) (.tmp 25) 22 rfl 38 i0 6 hu hi0 hz1 g i (i + 1) (by simp [Act.eval, Act.put]) ⟨g, 0, none⟩ 0 0 (xs.drop ((i + 1) * 6)) (by simp [Act.eval, Act.put]) (by rw [hdl]) cur HG.out (fun j u hj => by have := (List.getElem?_eq_some_iff.1 hj).1; rw [hdl] at this; omega) H1D.out (by omega) (by rw [hdl, HC.out]; omega) g w (below_drew1 _ _) (Nat.le_refl _) ?_; intro w4 hg4 hs4 hb4)
  clear hs4
  go_wp2_with (refine wpList_clearK rfl _ 22 rfl 38 _ 6 hu hzv hzc hz1c g (i * 6) 1 (i + 1 - i) ?d1 ?d2 _ 38 hg4.out ?d3 g w hb4 (Nat.le_refl _) ?_)
  case d1 => simp [Act.eval, Act.put, hlen]
  case d2 => omega
  case d3 => simp only [List.size_toArray]; rw [length_splice _ _ _ (by rw [hdl, HC.out]; omega), HC.out]; omega
  intro w5 hg5 hs5 hb5
  clear hs5
  have HF5 := HF.out w5 hg5.out
  go_wp2
  go_returns
  exact ⟨_, rfl, HF5.out, hb5.mono hB⟩

theorem delete_Sheet (B : Nat) (v : Value) (n i : Nat) (xs : List Value) (w : World) (ho : w.ownsRow B 38 6 v n xs) (hi : i < n) (h1x : ∀ u ∈ xs, u.oneCell' = true) (hn : n ≤ 1000000) :
    Calls Tryd.prog 58 #[v, .int .i64 i, .int .i64 ((i : Int) + 1)] w fun e w' => ∃ v', e = .returned v' ∧ w'.ownsRow B 38 6 v' (n - 1) (xs.take (i * 6) ++ xs.drop ((i + 1) * 6)) ∧ Below B w w' := by
  rcases ho.2 with ⟨rfl, h0⟩ | ⟨g, c, cur, rfl, hb, hg, hnc, hcm, hcs, htk⟩
  · omega
  · obtain ⟨m, rfl⟩ : ∃ m, n = i + 1 + m := ⟨n - (i + 1), by omega⟩
    rw [show i + 1 + m - 1 = i + m by omega]
    by_cases hci : c = i + 1
    · subst hci
      obtain rfl : m = 0 := by omega
      exact delLast_Sheet B g i cur.toList xs w hb (by simpa using hg) (by simpa using hcs) htk h1x hn
    · exact delRow_Sheet B g c i m cur.toList xs w hb (by simpa using hg) (by simpa using hcs) htk hnc hcm hci h1x hn

/-- slices.Insert of one element -/
theorem insert_Bar (B : Nat) (v : Value) (n i : Nat) (xs ys : List Value) (g1 : Nat) (w : World) (hB : B ≤ w.heap.size) (ho : w.ownsRow B 40 5 v n xs) (hg1 : w.heap[g1]? = some (.cells ys.toArray 40 (0, 0)))
    (hi : i ≤ n) (hy : ys.length = 5) (h1y : ∀ u ∈ ys, u.oneCell' = true) (h1x : ∀ u ∈ xs, u.oneCell' = true) (hn : n ≤ 1000000) :
    Calls Tryd.prog 60 #[v, .int .i64 i, .slice (some ⟨g1, 0, none⟩) 1 1] w fun e w' => ∃ v', e = .returned v' ∧ w'.ownsRow B 40 5 v' (n + 1) (xs.take (i * 5) ++ (ys ++ xs.drop (i * 5))) ∧ Below B w w' := by
  have hxl := ho.1
  by_cases h : i = n
  · subst h
    have e : xs.take (i * 5) ++ (ys ++ xs.drop (i * 5)) = xs ++ ys := by rw [List.take_of_length_le (by omega), List.drop_of_length_le (by omega), List.append_nil]
    rw [e]
    exact insEnd_Bar B v i xs ys g1 w hB ho hg1 hy h1y hn
  · rcases ho.2 with ⟨rfl, h0⟩ | ⟨g, c, cur, rfl, hb, hg, hnc, hcm, hcs, htk⟩
    · omega
    · by_cases hr : n + 1 ≤ c
      · have hne' : g1 ≠ g := fun e => by
          subst e
          rw [hg] at hg1
          have h2 : cur.size = ys.length := by
            have h3 := Option.some.inj hg1
            injection h3 with h4
            rw [h4]; simp
          omega
        exact insRoom_Bar B g n c i cur.toList xs ys g1 w hb (by simpa using hg) hg1 hne' (by simpa using hcs) htk hr hcm (by omega) hy h1y h1x hn
      · have hcn : c = n := by omega
        subst hcn
        have hcx : cur.toList = xs := by rw [← htk, List.take_of_length_le (by simp [hcs])]
        exact insGrow_Bar B g c i xs ys g1 w hB (by rw [← hcx]; simpa using hg) hg1 hxl (by omega) hy h1y h1x hn

theorem zeroOf_Bar : ∀ w, (zeroValue 40).run Tryd.prog w = .ok (.agg #[.string ⟨#[]⟩, .string ⟨#[]⟩, .string ⟨#[]⟩, .int .i64 0, .string ⟨#[]⟩]) w := Tryd.zeroValue40
set_option maxHeartbeats 4000000 in
set_option maxRecDepth 100000 in
/-- slices.Delete of one element; m elements stand behind it -/
theorem delRow_Bar (B g c i m : Nat) (cur xs : List Value) (w : World) (hB : B ≤ g) (hg : w.heap[g]? = some (.cells cur.toArray 40 (0, 0)))
    (hcur : cur.length = c * 5) (hx : cur.take ((i + 1 + m) * 5) = xs) (hc : i + 1 + m ≤ c) (hcm : c ≤ maxLen) (hci : ¬ (c = i + 1)) (h1x : ∀ u ∈ xs, u.oneCell' = true) (hn : i + 1 + m ≤ 1000000) :
    Calls Tryd.prog 61 #[.slice (some ⟨g, 0, none⟩) (i + 1 + m) c, .int .i64 i, .int .i64 ((i : Int) + 1)] w fun e w' => ∃ v', e = .returned v' ∧ w'.ownsRow B 40 5 v' (i + m) (xs.take (i * 5) ++ xs.drop ((i + 1) * 5)) ∧ Below B w w' := by
  have hu : Tryd.prog.underlying 23 = some (.slice 40) := Tryd.underlying23
  obtain ⟨i0, hi0, hz0, hz1, hz2⟩ := info_parts info_Bar
  have hzv := zeroOf_Bar
  have hzc : ((.agg #[.string ⟨#[]⟩, .string ⟨#[]⟩, .string ⟨#[]⟩, .int .i64 0, .string ⟨#[]⟩] : Value)).cells.size = 5 := rfl
  have hz1c : ∀ v ∈ ((.agg #[.string ⟨#[]⟩, .string ⟨#[]⟩, .string ⟨#[]⟩, .int .i64 0, .string ⟨#[]⟩] : Value)).cells, v.oneCell' = true := by
    intro v hv
    simp [Value.cells] at hv
    rcases hv with rfl | rfl | rfl | rfl | rfl <;> rfl
  have hxl : xs.length = (i + 1 + m) * 5 := by rw [← hx, List.length_take, hcur]; omega
  have hdl : (xs.drop ((i + 1) * 5)).length = m * 5 := by rw [List.length_drop, hxl]; omega
  have htl : (xs.take (i * 5)).length = i * 5 := by rw [List.length_take, hxl]; omega
  have HG := Lib.hid hg
  have hsx : ∀ j u, (xs.drop ((i + 1) * 5))[j]? = some u → w.drew.cell? ⟨g, (i + 1) * 5 + j, none⟩ = some u := fun j u hj => by
    show w.cell? _ = _
    rw [cell_of_row w g _ _ _ (0, 0) HG.out]
    rw [List.getElem?_drop, ← hx, List.getElem?_take] at hj
    split at hj
    · simpa using hj
    · cases hj
  have HSX := Lib.hid hsx
  have H1D : Hid (∀ u ∈ xs.drop ((i + 1) * 5), u.oneCell' = true) := fun u hu => h1x u (List.mem_of_mem_drop hu)
  have HC := Lib.hid hcur
  have hF : ∀ w' : World, w'.heap[g]? = some (.cells ((splice cur (i * 5) (xs.drop ((i + 1) * 5))).toArray.toList.take ((i + m) * 5) ++ ((Builtin.zeroCells ((.agg #[.string ⟨#[]⟩, .string ⟨#[]⟩, .string ⟨#[]⟩, .int .i64 0, .string ⟨#[]⟩] : Value)).cells 1).toList ++ (splice cur (i * 5) (xs.drop ((i + 1) * 5))).toArray.toList.drop ((i + m) * 5 + 1 * 5))).toArray 40 (0, 0)) → Hid (w'.ownsRow B 40 5 (.slice (some ⟨g, 0, none⟩) (i + m) c) (i + m) (xs.take (i * 5) ++ xs.drop ((i + 1) * 5))) := fun w' h => by
    have h1 : (splice cur (i * 5) (xs.drop ((i + 1) * 5))).length = c * 5 := by rw [length_splice _ _ _ (by rw [hdl, hcur]; omega), hcur]
    have e1 : cur.take (i * 5) = xs.take (i * 5) := by rw [← hx, List.take_take, Nat.min_eq_left (by omega)]
    have l1 : (xs.take (i * 5) ++ xs.drop ((i + 1) * 5)).length = (i + m) * 5 := by rw [List.length_append, htl, hdl]; omega
    have e2 : (splice cur (i * 5) (xs.drop ((i + 1) * 5))).take ((i + m) * 5) = xs.take (i * 5) ++ xs.drop ((i + 1) * 5) := by
      unfold splice
      rw [e1, ← List.append_assoc, List.take_append_of_le_length (by rw [l1]; omega), List.take_of_length_le (by rw [l1]; omega)]
    refine ⟨l1, .inr ⟨g, c, _, rfl, hB, h, by omega, hcm, ?_, ?_⟩⟩
    · simp only [List.size_toArray, List.length_append, List.length_take, List.length_drop, h1, Array.length_toList, size_zeroCells, hzc]
      omega
    · simp only []
      rw [List.take_append_of_le_length (by rw [List.length_take, h1]; omega), List.take_take, Nat.min_self, e2]
  have HF := Lib.hid hF
  have k1 : ((i : Int) == (i : Int) + 1) = false := by simp; omega
  have b1 : (0 : Int) ≤ (i : Int) + 1 := by omega
  have b2 : ((i : Int) + 1).toNat = i + 1 := by omega
  have b3 : (i : Int) ≤ (i : Int) + 1 := by omega
  have b4 : (i : Int) + 1 ≤ (i : Int) + 1 + (m : Int) := by omega
  have b5 : i + 1 ≤ i + 1 + m := by omega
  have b6 : i ≤ i + 1 := by omega
  have b7 : ¬ (c = i) := by omega
  have b8 : ¬ (c = i + m) := by omega
  have b9 : i + 1 + m ≤ c := by omega
  have b10 : i + m ≤ i + 1 + m := by omega
  have b11 : i ≤ c := by omega
  have hlen : i + 1 + m - (i + m) = 1 := by omega
  have hlen2 : i + 1 + m - (i + 1) = m := by omega
  clear hg hx h1x hcur hsx hF
  go_enter Tryd.func61, Tryd.ntmps61
  go_wp2_with fail
  go_region_law (refine step_appendK rfl (.tmp 22) (.tmp 25) 23 rfl 40 i0 5 hu hi0 hz1 g i c (by simp [Act.eval, Act.put]) ⟨g, (i + 1) * 5, none⟩ m (c - (i + 1)) (xs.drop ((i + 1) * 5)) (by simp [Act.eval, Act.put]) (by rw [hdl]) cur HG.out (fun j u hj => by rw [Addr.add_lit]; exact HSX.out j u hj) H1D.out (by omega) (by rw [hdl, HC.out]; omega) g w (below_drew1 _ _) (Nat.le_refl _) ?_; intro w4 hg4 hs4 hb4)
  clear hs4
  go_wp2_with (refine wpList_clearK rfl _ 23 rfl 40 _ 5 hu hzv hzc hz1c g ((i + m) * 5) 1 (c - (i + m)) ?d1 ?d2 _ 40 hg4.out ?d3 g w hb4 (Nat.le_refl _) ?_)
  case d1 => simp [Act.eval, Act.put, hlen]
  case d2 => omega
  case d3 => simp only [List.size_toArray]; rw [length_splice _ _ _ (by rw [hdl, HC.out]; omega), HC.out]; omega
  intro w5 hg5 hs5 hb5
  clear hs5
  have HF5 := HF.out w5 hg5.out
  go_wp2
  go_returns
  exact ⟨_, rfl, HF5.out, hb5.mono hB⟩
set_option maxHeartbeats 4000000 in
set_option maxRecDepth 100000 in
/-- slices.Delete of one element; nothing stands behind it, nor is there room -/
theorem delLast_Bar (B g i : Nat) (cur xs : List Value) (w : World) (hB : B ≤ g) (hg : w.heap[g]? = some (.cells cur.toArray 40 (0, 0)))
    (hcur : cur.length = (i + 1) * 5) (hx : cur.take ((i + 1) * 5) = xs) (h1x : ∀ u ∈ xs, u.oneCell' = true) (hn : i + 1 ≤ 1000000) :
    Calls Tryd.prog 61 #[.slice (some ⟨g, 0, none⟩) (i + 1) (i + 1), .int .i64 i, .int .i64 ((i : Int) + 1)] w fun e w' => ∃ v', e = .returned v' ∧ w'.ownsRow B 40 5 v' i (xs.take (i * 5) ++ xs.drop ((i + 1) * 5)) ∧ Below B w w' := by
  have hu : Tryd.prog.underlying 23 = some (.slice 40) := Tryd.underlying23
  obtain ⟨i0, hi0, hz0, hz1, hz2⟩ := info_parts info_Bar
  have hzv := zeroOf_Bar
  have hzc : ((.agg #[.string ⟨#[]⟩, .string ⟨#[]⟩, .string ⟨#[]⟩, .int .i64 0, .string ⟨#[]⟩] : Value)).cells.size = 5 := rfl
  have hz1c : ∀ v ∈ ((.agg #[.string ⟨#[]⟩, .string ⟨#[]⟩, .string ⟨#[]⟩, .int .i64 0, .string ⟨#[]⟩] : Value)).cells, v.oneCell' = true := by
    intro v hv
    simp [Value.cells] at hv
    rcases hv with rfl | rfl | rfl | rfl | rfl <;> rfl
  have hxl : xs.length = (i + 1) * 5 := by rw [← hx, List.length_take, hcur]; omega
  have hdl : (xs.drop ((i + 1) * 5)).length = 0 * 5 := by rw [List.length_drop, hxl]; omega
  have htl : (xs.take (i * 5)).length = i * 5 := by rw [List.length_take, hxl]; omega
  have HG := Lib.hid hg
  have hsx : ∀ j u, (xs.drop ((i + 1) * 5))[j]? = some u → w.drew.cell? ⟨g, (i + 1) * 5 + j, none⟩ = some u := fun j u hj => by
    show w.cell? _ = _
    rw [cell_of_row w g _ _ _ (0, 0) HG.out]
    rw [List.getElem?_drop, ← hx, List.getElem?_take] at hj
    split at hj
    · simpa using hj
    · cases hj
  have HSX := Lib.hid hsx
  have H1D : Hid (∀ u ∈ xs.drop ((i + 1) * 5), u.oneCell' = true) := fun u hu => h1x u (List.mem_of_mem_drop hu)
  have HC := Lib.hid hcur
  have hF : ∀ w' : World, w'.heap[g]? = some (.cells ((splice cur (i * 5) (xs.drop ((i + 1) * 5))).toArray.toList.take (i * 5) ++ ((Builtin.zeroCells ((.agg #[.string ⟨#[]⟩, .string ⟨#[]⟩, .string ⟨#[]⟩, .int .i64 0, .string ⟨#[]⟩] : Value)).cells 1).toList ++ (splice cur (i * 5) (xs.drop ((i + 1) * 5))).toArray.toList.drop (i * 5 + 1 * 5))).toArray 40 (0, 0)) → Hid (w'.ownsRow B 40 5 (.slice (some ⟨g, 0, none⟩) i (i + 1)) i (xs.take (i * 5) ++ xs.drop ((i + 1) * 5))) := fun w' h => by
    have h1 : (splice cur (i * 5) (xs.drop ((i + 1) * 5))).length = (i + 1) * 5 := by rw [length_splice _ _ _ (by rw [hdl, hcur]; omega), hcur]
    have e1 : cur.take (i * 5) = xs.take (i * 5) := by rw [← hx, List.take_take, Nat.min_eq_left (by omega)]
    have l1 : (xs.take (i * 5) ++ xs.drop ((i + 1) * 5)).length = i * 5 := by rw [List.length_append, htl, hdl]; omega
    have e2 : (splice cur (i * 5) (xs.drop ((i + 1) * 5))).take (i * 5) = xs.take (i * 5) ++ xs.drop ((i + 1) * 5) := by
      unfold splice
      rw [e1, ← List.append_assoc, List.take_append_of_le_length (by rw [l1]; omega), List.take_of_length_le (by rw [l1]; omega)]
    refine ⟨l1, .inr ⟨g, i + 1, _, rfl, hB, h, by omega, (by unfold maxLen; omega), ?_, ?_⟩⟩
    · simp only [List.size_toArray, List.length_append, List.length_take, List.length_drop, h1, Array.length_toList, size_zeroCells, hzc]
      omega
    · simp only []
      rw [List.take_append_of_le_length (by rw [List.length_take, h1]; omega), List.take_take, Nat.min_self, e2]
  have HF := Lib.hid hF
  have k1 : ((i : Int) == (i : Int) + 1) = false := by simp; omega
  have b1 : (0 : Int) ≤ (i : Int) + 1 := by omega
  have b2 : ((i : Int) + 1).toNat = i + 1 := by omega
  have b3 : (i : Int) ≤ (i : Int) + 1 := by omega
  have b6 : i ≤ i + 1 := by omega
  have b10 : i ≤ i + 1 := by omega
  have hlen : i + 1 - i = 1 := by omega
  clear hg hx h1x hcur hsx hF
  go_enter Tryd.func61, Tryd.ntmps61
  go_wp2_with fail
  go_region_law (refine step_appendK rfl (.tmp 22) (.tmp 25) 23 rfl 40 i0 5 hu hi0 hz1 g i (i + 1) (by simp [Act.eval, Act.put]) ⟨g, 0, none⟩ 0 0 (xs.drop ((i + 1) * 5)) (by simp [Act.eval, Act.put]) (by rw [hdl]) cur HG.out (fun j u hj => by have := (List.getElem?_eq_some_iff.1 hj).1; rw [hdl] at this; omega) H1D.out (by omega) (by rw [hdl, HC.out]; omega) g w (below_drew1 _ _) (Nat.le_refl _) ?_; intro w4 hg4 hs4 hb4)
  clear hs4
  go_wp2_with (refine wpList_clearK rfl _ 23 rfl 40 _ 5 hu hzv hzc hz1c g (i * 5) 1 (i + 1 - i) ?d1 ?d2 _ 40 hg4.out ?d3 g w hb4 (Nat.le_refl _) ?_)
  case d1 => simp [Act.eval, Act.put, hlen]
  case d2 => omega
  case d3 => simp only [List.size_toArray]; rw [length_splice _ _ _ (by rw [hdl, HC.out]; omega), HC.out]; omega
  intro w5 hg5 hs5 hb5
  clear hs5
  have HF5 := HF.out w5 hg5.out
  go_wp2
  go_returns
  exact ⟨_, rfl, HF5.out, hb5.mono hB⟩

theorem delete_Bar (B : Nat) (v : Value) (n i : Nat) (xs : List Value) (w : World) (ho : w.ownsRow B 40 5 v n xs) (hi : i < n) (h1x : ∀ u ∈ xs, u.oneCell' = true) (hn : n ≤ 1000000) :
    Calls Tryd.prog 61 #[v, .int .i64 i, .int .i64 ((i : Int) + 1)] w fun e w' => ∃ v', e = .returned v' ∧ w'.ownsRow B 40 5 v' (n - 1) (xs.take (i * 5) ++ xs.drop ((i + 1) * 5)) ∧ Below B w w' := by
  rcases ho.2 with ⟨rfl, h0⟩ | ⟨g, c, cur, rfl, hb, hg, hnc, hcm, hcs, htk⟩
  · omega
  · obtain ⟨m, rfl⟩ : ∃ m, n = i + 1 + m := ⟨n - (i + 1), by omega⟩
    rw [show i + 1 + m - 1 = i + m by omega]
    by_cases hci : c = i + 1
    · subst hci
      obtain rfl : m = 0 := by omega
      exact delLast_Bar B g i cur.toList xs w hb (by simpa using hg) (by simpa using hcs) htk h1x hn
    · exact delRow_Bar B g c i m cur.toList xs w hb (by simpa using hg) (by simpa using hcs) htk hnc hcm hci h1x hn
end Go.Proofs.YtiddpaaihloopaaDoor
