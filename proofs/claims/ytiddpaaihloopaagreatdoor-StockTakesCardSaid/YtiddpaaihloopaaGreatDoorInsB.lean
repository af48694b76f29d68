/-
  slices.Insert of one element within a row of plates or bars, by walks. Conditions: a row of the caller's own, at most 10^6 elements. By an AI agent.
-/
import Derived.Test.YtiddpaaihloopaaGreatDoorInsA
namespace Go.Proofs.YtiddpaaihloopaaGreatDoor
open Go Go.RowKit
set_option linter.unusedVariables false
set_option linter.unusedSimpArgs false

set_option maxHeartbeats 4000000 in
set_option maxRecDepth 100000 in
/-- slices.Insert within the row, where there is room -/
theorem insRoom_Sheet (B g n c i : Nat) (cur xs ys : List Value) (g1 : Nat) (w : World) (hB : B ≤ g) (hg : w.heap[g]? = some (.cells cur.toArray 31 (0, 0))) (hg1 : w.heap[g1]? = some (.cells ys.toArray 31 (0, 0))) (hne : g1 ≠ g)
    (hcur : cur.length = c * 6) (hx : cur.take (n * 6) = xs) (hc : n + 1 ≤ c) (hcm : c ≤ maxLen) (hi : i < n) (hy : ys.length = 6) (h1y : ∀ u ∈ ys, u.oneCell' = true) (h1x : ∀ u ∈ xs, u.oneCell' = true) (hn : n ≤ 1000000) :
    Calls Tryz.prog 55 #[.slice (some ⟨g, 0, none⟩) n c, .int .i64 i, .slice (some ⟨g1, 0, none⟩) 1 1] w fun e w' => ∃ v', e = .returned v' ∧ w'.ownsRow B 31 6 v' (n + 1) (xs.take (i * 6) ++ (ys ++ xs.drop (i * 6))) ∧ Below B w w' := by
  have hu : Tryz.prog.underlying 22 = some (.slice 31) := Tryz.underlying22
  have hsz : (Tryz.prog.info? 31).map (·.size) = some 6 := by kernel_rfl
  have hsz2 : ∀ w, (Go.sizeOf 31).run Tryz.prog w = .ok 6 w := Tryz.sizeOf31
  have hxl : xs.length = n * 6 := by rw [← hx, List.length_take, hcur]; omega
  have hdl : (xs.drop (i * 6)).length = (n - i) * 6 := by rw [List.length_drop, hxl]; omega
  have hsh : w.shape? g = some (31, c * 6) := by rw [show c * 6 = cur.toArray.size by simp [hcur]]; simp [World.shape?, hg]
  have hsh1 : w.shape? g1 = some (31, 6) := by simp [World.shape?, hg1, hy]
  have hfr : ∀ o, w.frozen? ⟨g1, o, none⟩ = false := fun o => frozen_of_row w g1 o _ _ hg1
  have hov : ∀ lb cb, (callFunc 76 #[.slice (some ⟨g1, 0, none⟩) 1 1, .slice (some ⟨g, (i + 1) * 6, none⟩) lb cb]).run Tryz.prog w = .ok (.value (.bool false)) w := fun lb cb => by
    rw [run_callFunc_extern Tryz.func76 (by kernel_rfl) (by kernel_rfl) (by kernel_rfl) (e := Extern.SlicesOverlaps.overlaps #[22, 22] #[4]) (by kernel_rfl),
      Lib.run_overlaps_apart w 22 4 31 hu 6 hsz2 ⟨g1, 0, none⟩ ⟨g, (i + 1) * 6, none⟩ 1 1 lb cb hne _ _ _ _ hsh1 hsh (by omega) (hfr 0) (hfr _)]
    rfl
  have HG := Lib.hid hg
  have HSRC : Hid (∀ j u, (xs.drop (i * 6))[j]? = some u → w.cell? ⟨g, i * 6 + j, none⟩ = some u) := fun j u hj => by
    rw [cell_of_row w g _ _ _ (0, 0) hg]
    rw [List.getElem?_drop, ← hx] at hj
    rw [List.getElem?_take] at hj
    split at hj
    · simpa using hj
    · cases hj
  have HSY : Hid (∀ w2 : World, w2.heap[g1]? = w.heap[g1]? → ∀ j u, ys[j]? = some u → w2.cell? ((⟨g1, 0, none⟩ : Addr).add j) = some u) := fun w2 h2 j u hj => by
    rw [Addr.add_lit, cell_of_row w2 g1 _ _ _ (0, 0) (h2.trans hg1)]
    simpa using hj
  have H1D : Hid (∀ u ∈ xs.drop (i * 6), u.oneCell' = true) := fun u hu => h1x u (List.mem_of_mem_drop hu)
  have H1Y := Lib.hid h1y
  have hF : ∀ w' : World, w'.heap[g]? = some (.cells (splice (splice cur ((i + 1) * 6) (xs.drop (i * 6))) (i * 6) ys).toArray 31 (0, 0)) → Hid (w'.ownsRow B 31 6 (.slice (some ⟨g, 0, none⟩) (n + 1) c) (n + 1) (xs.take (i * 6) ++ (ys ++ xs.drop (i * 6)))) := fun w' h => by
    have h1 : (splice cur ((i + 1) * 6) (xs.drop (i * 6))).length = c * 6 := by rw [length_splice _ _ _ (by rw [hdl, hcur]; omega), hcur]
    have h2 : (splice (splice cur ((i + 1) * 6) (xs.drop (i * 6))) (i * 6) ys).length = c * 6 := by rw [length_splice _ _ _ (by rw [hy, h1]; omega), h1]
    refine ⟨by simp [hxl, hy]; omega, .inr ⟨g, c, _, rfl, hB, h, hc, hcm, by simpa using h2, ?_⟩⟩
    have e1 : cur.take (i * 6) = xs.take (i * 6) := by rw [← hx, List.take_take, Nat.min_eq_left (by omega)]
    have l1 : (cur.take ((i + 1) * 6)).length = (i + 1) * 6 := by rw [List.length_take, hcur]; omega
    have e2 : (splice cur ((i + 1) * 6) (xs.drop (i * 6))).take (i * 6) = xs.take (i * 6) := by
      unfold splice
      rw [List.take_append_of_le_length (by rw [l1]; omega), List.take_take, Nat.min_eq_left (by omega), e1]
    have e3 : (splice cur ((i + 1) * 6) (xs.drop (i * 6))).drop (i * 6 + ys.length) = xs.drop (i * 6) ++ cur.drop ((i + 1) * 6 + (xs.drop (i * 6)).length) := by
      unfold splice
      rw [hy, show i * 6 + 6 = (i + 1) * 6 by omega, List.drop_append_of_le_length (by rw [l1]; omega), List.drop_of_length_le (by rw [l1]; omega), List.nil_append]
    have e4 : splice (splice cur ((i + 1) * 6) (xs.drop (i * 6))) (i * 6) ys = (xs.take (i * 6) ++ (ys ++ xs.drop (i * 6))) ++ cur.drop ((i + 1) * 6 + (xs.drop (i * 6)).length) := by
      conv => lhs; unfold splice
      rw [show List.take (i * 6) (List.take ((i + 1) * 6) cur ++ (xs.drop (i * 6) ++ List.drop ((i + 1) * 6 + (xs.drop (i * 6)).length) cur)) = xs.take (i * 6) from e2, show List.drop (i * 6 + ys.length) (List.take ((i + 1) * 6) cur ++ (xs.drop (i * 6) ++ List.drop ((i + 1) * 6 + (xs.drop (i * 6)).length) cur)) = _ from e3]
      simp only [List.append_assoc]
    simp only []
    rw [e4, List.take_append_of_le_length (by simp [hxl, hy]; omega), List.take_of_length_le (by simp [hxl, hy]; omega)]
  have HF := Lib.hid hF
  have hl1 : cur.length = c * 6 := hcur
  have hlc := Lib.hid hcur
  have w1 : IntKind.i64.wrap ((i : Int) + 1) = (i : Int) + 1 := IntWalk.i64_in _ (by omega)
  have w2 : IntKind.i64.wrap ((n : Int) + 1) = (n : Int) + 1 := IntWalk.i64_in _ (by omega)
  have b1 : (0 : Int) ≤ (i : Int) + 1 := by omega
  have b2 : ((i : Int) + 1).toNat = i + 1 := by omega
  have b3 : ((n : Int) + 1).toNat = n + 1 := by omega
  have b4 : ¬ (c = i + 1) := by omega
  have b5 : ¬ (c = i) := by omega
  have b6 : ((i : Int) == (n : Int)) = false := by simp; omega
  have b7 : decide ((c : Int) < (n : Int) + 1) = false := decide_eq_false (by omega)
  have hin : i ≤ n := by omega
  have hin1 : (i : Int) ≤ (n : Int) + 1 := by omega
  have hmin1 : Nat.min (n + 1 - i) (n - i) = n - i := by show min _ _ = _; omega
  have hmin2 : Nat.min 1 (n + 1 - i) = 1 := by show min _ _ = _; omega
  have HBg : Hid (∀ w' : World, w'.heap[g]? = w'.heap[g]?) := fun _ => rfl
  clear hg hg1 hx h1y h1x hsh hsh1 hfr hF hl1 hcur
  go_enter Tryz.func55, Tryz.ntmps55
  go_wp2_with (simp only [hov])
  go_region_law (refine step_copyK rfl (.tmp 73) (.tmp 76) 22 22 rfl 31 6 hu hsz (some ⟨g, (i + 1) * 6, none⟩) (some ⟨g, i * 6, none⟩) (n - i) (c - (i + 1)) (n + 1 - i) (c - i) (by simp [Act.eval, Act.put]) (by simp [Act.eval, Act.put]) g ((i + 1) * 6) cur 31 HG.out (xs.drop (i * 6)) (by decide) (by rw [hmin1]; exact hdl) (fun _ => ⟨rfl, ⟨g, i * 6, none⟩, rfl, fun j u hj => by rw [Addr.add_lit]; exact HSRC.out j u hj⟩) (by rw [hdl, hlc.out]; omega) H1D.out g w (below_drew1 _ _) (Nat.le_refl _) ?_; intro w4 hg4 hs4 hb4)
  have HG1 : Hid (∀ j u, ys[j]? = some u → w4.cell? ((⟨g1, 0, none⟩ : Addr).add j) = some u) := HSY.out w4 (hs4.out.2 g1 hne)
  clear hs4
  go_wp2_with (refine wpList_copyK rfl _ _ 22 22 rfl 31 6 hu hsz _ _ _ _ _ _ rfl rfl g (i * 6) (splice cur ((i + 1) * 6) (xs.drop (i * 6))) 31 ?d1 ys ?d2 ?d3 ?d4 ?d5 ?d6 g w ?d7 ?d8 ?_)
  case d1 => exact hg4.out
  case d2 => decide
  case d3 => rw [hmin2]; omega
  case d4 => exact fun j v h => by have := HG1.out j v h; rwa [Addr.add_lit, Nat.zero_add] at this
  case d5 => rw [hy, length_splice _ _ _ (by rw [hdl, hlc.out]; omega), hlc.out]; omega
  case d6 => exact H1Y.out
  case d7 => exact hb4
  case d8 => exact Nat.le_refl _
  intro w5 hg5 hs5 hb5
  clear hs5
  have HF5 := HF.out w5 hg5.out
  go_wp2
  go_returns
  exact ⟨_, rfl, HF5.out, hb5.mono hB⟩

set_option maxHeartbeats 4000000 in
set_option maxRecDepth 100000 in
/-- slices.Insert within the row, where there is no room -/
theorem insGrow_Sheet (B g n i : Nat) (xs ys : List Value) (g1 : Nat) (w : World) (hB : B ≤ w.heap.size) (hg : w.heap[g]? = some (.cells xs.toArray 31 (0, 0))) (hg1 : w.heap[g1]? = some (.cells ys.toArray 31 (0, 0)))
    (hxl : xs.length = n * 6) (hi : i < n) (hy : ys.length = 6) (h1y : ∀ u ∈ ys, u.oneCell' = true) (h1x : ∀ u ∈ xs, u.oneCell' = true) (hn : n ≤ 1000000) :
    Calls Tryz.prog 55 #[.slice (some ⟨g, 0, none⟩) n n, .int .i64 i, .slice (some ⟨g1, 0, none⟩) 1 1] w fun e w' => ∃ v', e = .returned v' ∧ w'.ownsRow B 31 6 v' (n + 1) (xs.take (i * 6) ++ (ys ++ xs.drop (i * 6))) ∧ Below B w w' := by
  have hu : Tryz.prog.underlying 22 = some (.slice 31) := Tryz.underlying22
  have hui : Tryz.prog.underlying 3 = some (.int .i64) := Tryz.underlying3
  have hsz : (Tryz.prog.info? 31).map (·.size) = some 6 := by kernel_rfl
  obtain ⟨i0, hi0, hz0, hz1, hz2⟩ := info_parts info_Sheet
  have hdl : (xs.drop (i * 6)).length = (n - i) * 6 := by rw [List.length_drop, hxl]; omega
  have htl : (xs.take (i * 6)).length = i * 6 := by rw [List.length_take, hxl]; omega
  have hgw : g < w.heap.size := (Array.getElem?_eq_some_iff.1 hg).1
  have hg1w : g1 < w.heap.size := (Array.getElem?_eq_some_iff.1 hg1).1
  obtain ⟨G, hG⟩ : ∃ G, grownCap w (n + 1) n 31 = G := ⟨_, rfl⟩
  have hG1 : n + 1 ≤ G := by rw [← hG]; exact grownCap_ge w _ _ _
  have hG2 : G ≤ maxLen := by rw [← hG]; exact grownCap_le_maxLen w _ _ _ (by unfold maxLen; omega)
  have hG3 : G ≤ 9223372036854775807 := by simpa [maxLen] using hG2
  have hold : (Builtin.firstCells i0.size i (.slice (some ⟨g, 0, none⟩) i n)).run Tryz.prog w.drew = .ok (xs.take (i * 6)).toArray w.drew := by
    rw [hz1]
    exact run_firstCells_some w.drew 6 i ⟨g, 0, none⟩ i n (xs.take (i * 6)) (by rw [htl]) (fun j v hj => by
      rw [Addr.add_lit]
      show w.cell? _ = _
      rw [cell_of_row w g _ _ _ (0, 0) hg]
      rw [List.getElem?_take] at hj
      split at hj
      · simpa using hj
      · cases hj)
  obtain ⟨ROW, hROW⟩ : ∃ ROW : List Value, ROW = xs.take (i * 6) ++ (Builtin.zeroCells ((.agg #[.string ⟨#[]⟩, .string ⟨#[]⟩, .int .i64 0, .int .i64 0, .int .i64 0, .string ⟨#[]⟩] : Value)).cells (n + 1 - i)).toList ++ (Builtin.zeroCells ((.agg #[.string ⟨#[]⟩, .string ⟨#[]⟩, .int .i64 0, .int .i64 0, .int .i64 0, .string ⟨#[]⟩] : Value)).cells (G - (n + 1))).toList := ⟨_, rfl⟩
  have hRl : ROW.length = G * 6 := by
    have hz : ((.agg #[.string ⟨#[]⟩, .string ⟨#[]⟩, .int .i64 0, .int .i64 0, .int .i64 0, .string ⟨#[]⟩] : Value)).cells.size = 6 := rfl
    rw [hROW]
    simp only [List.length_append, htl, Array.length_toList, size_zeroCells, hz]
    omega
  have hRt : ROW.take (i * 6) = xs.take (i * 6) := by
    rw [hROW, List.append_assoc, List.take_append_of_le_length (by rw [htl]; omega), List.take_of_length_le (by rw [htl]; omega)]
  have hrz : ∀ ty, (Builtin.append_ #[22, 3] ty #[.slice (some ⟨g, 0, none⟩) i n, .int .i64 ((n : Int) + 1 - (i : Int))]).run Tryz.prog w =
      .ok (.slice (some ⟨w.heap.size, 0, none⟩) (n + 1) G) (w.drew.alloc (.cells ROW.toArray 31 (0, 0))) := fun ty => by
    have h := Lib.run_append_grow_zeros w 22 3 ty 31 i0 _ .i64 .i64 hu hui hi0 hz0 (some ⟨g, 0, none⟩) i n (xs.take (i * 6)) hold (n + 1 - i) (by omega) (by omega) (by omega) (by omega) (by rw [hz2]; omega) (by rw [hz2, show i + (n + 1 - i) = n + 1 by omega]; exact growslice_fits (by omega) (by omega))
    rw [show i + (n + 1 - i) = n + 1 by omega, hG] at h
    rw [show (n : Int) + 1 - (i : Int) = ((n + 1 - i : Nat) : Int) by omega, h, hROW]
    congr 3
    apply Array.ext'
    simp
  obtain ⟨N, hN⟩ : ∃ N, w.heap.size = N := ⟨_, rfl⟩
  have HN := Lib.hid hN
  obtain ⟨W1, hW1⟩ : ∃ W1, w.drew.alloc (.cells ROW.toArray 31 (0, 0)) = W1 := ⟨_, rfl⟩
  rw [hW1, hN] at hrz
  have HR1 : Hid (W1.heap[N]? = some (.cells ROW.toArray 31 (0, 0))) := by rw [← hW1, ← hN]; exact (MapKept.heap_alloc w.drew _).1
  have HB1 : Hid (Below N w W1) := by rw [← hW1, ← hN]; exact (below_drew1 _ _).alloc (Nat.le_refl _) _
  clear hW1
  have HG0 := Lib.hid hg
  have HG1 := Lib.hid hg1
  have hsy : ∀ w2 : World, w2.heap[g1]? = w.heap[g1]? → ∀ j u, ys[j]? = some u → w2.cell? ((⟨g1, 0, none⟩ : Addr).add j) = some u := fun w2 h2 j u hj => by
    rw [Addr.add_lit, cell_of_row w2 g1 _ _ _ (0, 0) (h2.trans HG1.out)]
    simpa using hj
  have HSY := Lib.hid hsy
  have hsx : ∀ w2 : World, w2.heap[g]? = w.heap[g]? → ∀ j u, (xs.drop (i * 6))[j]? = some u → w2.cell? ((⟨g, i * 6, none⟩ : Addr).add j) = some u := fun w2 h2 j u hj => by
    rw [Addr.add_lit, cell_of_row w2 g _ _ _ (0, 0) (h2.trans HG0.out)]
    rw [List.getElem?_drop] at hj
    simpa using hj
  have HSX := Lib.hid hsx
  have H1D : Hid (∀ u ∈ xs.drop (i * 6), u.oneCell' = true) := fun u hu => h1x u (List.mem_of_mem_drop hu)
  have H1Y := Lib.hid h1y
  have hF : ∀ w' : World, w'.heap[N]? = some (.cells (splice (splice ROW (i * 6) ys) ((i + 1) * 6) (xs.drop (i * 6))).toArray 31 (0, 0)) → Hid (w'.ownsRow B 31 6 (.slice (some ⟨N, 0, none⟩) (n + 1) G) (n + 1) (xs.take (i * 6) ++ (ys ++ xs.drop (i * 6)))) := fun w' h => by
    have h1 : (splice ROW (i * 6) ys).length = G * 6 := by rw [length_splice _ _ _ (by rw [hy, hRl]; omega), hRl]
    have h2 : (splice (splice ROW (i * 6) ys) ((i + 1) * 6) (xs.drop (i * 6))).length = G * 6 := by rw [length_splice _ _ _ (by rw [hdl, h1]; omega), h1]
    refine ⟨by simp [hxl, hy]; omega, .inr ⟨N, G, _, rfl, by omega, h, hG1, hG2, by simpa using h2, ?_⟩⟩
    have e2 : splice ROW (i * 6) ys = (xs.take (i * 6) ++ ys) ++ ROW.drop (i * 6 + ys.length) := by
      unfold splice
      rw [hRt, List.append_assoc]
    have l2 : (xs.take (i * 6) ++ ys).length = (i + 1) * 6 := by rw [List.length_append, htl, hy]; omega
    have e4 : splice (splice ROW (i * 6) ys) ((i + 1) * 6) (xs.drop (i * 6)) = (xs.take (i * 6) ++ (ys ++ xs.drop (i * 6))) ++ (splice ROW (i * 6) ys).drop ((i + 1) * 6 + (xs.drop (i * 6)).length) := by
      conv => lhs; unfold splice
      rw [show List.take ((i + 1) * 6) (List.take (i * 6) ROW ++ (ys ++ List.drop (i * 6 + ys.length) ROW)) = xs.take (i * 6) ++ ys from by
        have := e2
        unfold splice at this
        rw [this, List.take_append_of_le_length (by rw [l2]; omega), List.take_of_length_le (by rw [l2]; omega)]]
      simp only [List.append_assoc]
      rfl
    simp only []
    rw [e4, List.take_append_of_le_length (by simp [hxl, hy]; omega), List.take_of_length_le (by simp [hxl, hy]; omega)]
  have HF := Lib.hid hF
  have HRL := Lib.hid hRl
  have k1 : IntKind.i64.wrap ((i : Int) + 1) = (i : Int) + 1 := IntWalk.i64_in _ (by omega)
  have k2 : IntKind.i64.wrap ((n : Int) + 1) = (n : Int) + 1 := IntWalk.i64_in _ (by omega)
  have k3 : IntKind.i64.wrap ((n : Int) + 1 - (i : Int)) = (n : Int) + 1 - (i : Int) := IntWalk.i64_in _ (by omega)
  have b1 : (0 : Int) ≤ (i : Int) + 1 := by omega
  have b2 : ((i : Int) + 1).toNat = i + 1 := by omega
  have b3 : ((n : Int) + 1).toNat = n + 1 := by omega
  have b4 : ¬ (G = i + 1) := by omega
  have b5 : ¬ (G = i) := by omega
  have b8 : ¬ (n = i) := by omega
  have b6 : ((i : Int) == (n : Int)) = false := by simp; omega
  have b7 : decide ((n : Int) < (n : Int) + 1) = true := decide_eq_true (by omega)
  have hin : i ≤ n := by omega
  have hin1 : (i : Int) ≤ (n : Int) + 1 := by omega
  have hin2 : (i : Int) ≤ (n : Int) := by omega
  have hmin1 : Nat.min (n - i) (n - i) = n - i := by show min _ _ = _; omega
  have hmin2 : Nat.min 1 (n + 1 - i) = 1 := by show min _ _ = _; omega
  have hgN : g ≠ N := by omega
  have hgN1 : g < N := by omega
  have hgN2 : g1 < N := by omega
  have hg1N : g1 ≠ N := by omega
  clear hg hg1 h1y h1x hF hRl hRt hROW hold hsy hsx hN hG
  go_enter Tryz.func55, Tryz.ntmps55
  go_wp2_with (first
    | (at_builtin; refine Lib.wpList_append_run _ rfl _ _ _ _ rfl _ _ rfl rfl _ _ (hrz _) ?_)
    | (refine wpList_copyK rfl _ _ 22 22 rfl 31 6 hu hsz _ _ _ _ _ _ rfl rfl N (i * 6) ROW 31 ?d1 ys ?d2 ?d3 ?d4 ?d5 ?d6 N w ?d7 ?d8 ?_))
  case d1 => exact HR1.out
  case d2 => decide
  case d3 => rw [hmin2]; omega
  case d4 => exact fun j v h => by have := HSY.out W1 (HB1.out.block g1 (by omega)) j v h; rwa [Addr.add_lit, Nat.zero_add] at this
  case d5 => rw [hy, HRL.out]; omega
  case d6 => exact H1Y.out
  case d7 => exact HB1.out
  case d8 => exact Nat.le_refl _
  intro w4 hg4 hs4 hb4
  have HSX4 : Hid (∀ j u, (xs.drop (i * 6))[j]? = some u → w4.cell? ((⟨g, i * 6, none⟩ : Addr).add j) = some u) := HSX.out w4 (hb4.block g (by omega))
  clear hs4
  go_wp2_with fail
  go_region_law (refine step_copyK rfl (.tmp 50) (.tmp 53) 22 22 rfl 31 6 hu hsz (some ⟨N, (i + 1) * 6, none⟩) (some ⟨g, i * 6, none⟩) (n - i) (G - (i + 1)) (n - i) (n - i) (by simp [Act.eval, Act.put]) (by simp [Act.eval, Act.put]) N ((i + 1) * 6) (splice ROW (i * 6) ys) 31 hg4.out (xs.drop (i * 6)) (by decide) (by rw [hmin1]; exact hdl) (fun _ => ⟨rfl, _, rfl, HSX4.out⟩) (by rw [hdl, length_splice _ _ _ (by rw [hy, HRL.out]; omega), HRL.out]; omega) H1D.out N w (Below.trans hb4 (below_drew1 _ _)) (Nat.le_refl _) ?_; intro w5 hg5 hs5 hb5)
  clear hs5
  have HF5 := HF.out w5 hg5.out
  go_wp2
  go_returns
  exact ⟨_, rfl, HF5.out, hb5.mono (by have := HN.out; omega)⟩

set_option maxHeartbeats 4000000 in
set_option maxRecDepth 100000 in
/-- slices.Insert within the row, where there is room -/
theorem insRoom_Bar (B g n c i : Nat) (cur xs ys : List Value) (g1 : Nat) (w : World) (hB : B ≤ g) (hg : w.heap[g]? = some (.cells cur.toArray 33 (0, 0))) (hg1 : w.heap[g1]? = some (.cells ys.toArray 33 (0, 0))) (hne : g1 ≠ g)
    (hcur : cur.length = c * 5) (hx : cur.take (n * 5) = xs) (hc : n + 1 ≤ c) (hcm : c ≤ maxLen) (hi : i < n) (hy : ys.length = 5) (h1y : ∀ u ∈ ys, u.oneCell' = true) (h1x : ∀ u ∈ xs, u.oneCell' = true) (hn : n ≤ 1000000) :
    Calls Tryz.prog 65 #[.slice (some ⟨g, 0, none⟩) n c, .int .i64 i, .slice (some ⟨g1, 0, none⟩) 1 1] w fun e w' => ∃ v', e = .returned v' ∧ w'.ownsRow B 33 5 v' (n + 1) (xs.take (i * 5) ++ (ys ++ xs.drop (i * 5))) ∧ Below B w w' := by
  have hu : Tryz.prog.underlying 23 = some (.slice 33) := Tryz.underlying23
  have hsz : (Tryz.prog.info? 33).map (·.size) = some 5 := by kernel_rfl
  have hsz2 : ∀ w, (Go.sizeOf 33).run Tryz.prog w = .ok 5 w := Tryz.sizeOf33
  have hxl : xs.length = n * 5 := by rw [← hx, List.length_take, hcur]; omega
  have hdl : (xs.drop (i * 5)).length = (n - i) * 5 := by rw [List.length_drop, hxl]; omega
  have hsh : w.shape? g = some (33, c * 5) := by rw [show c * 5 = cur.toArray.size by simp [hcur]]; simp [World.shape?, hg]
  have hsh1 : w.shape? g1 = some (33, 5) := by simp [World.shape?, hg1, hy]
  have hfr : ∀ o, w.frozen? ⟨g1, o, none⟩ = false := fun o => frozen_of_row w g1 o _ _ hg1
  have hov : ∀ lb cb, (callFunc 87 #[.slice (some ⟨g1, 0, none⟩) 1 1, .slice (some ⟨g, (i + 1) * 5, none⟩) lb cb]).run Tryz.prog w = .ok (.value (.bool false)) w := fun lb cb => by
    rw [run_callFunc_extern Tryz.func87 (by kernel_rfl) (by kernel_rfl) (by kernel_rfl) (e := Extern.SlicesOverlaps.overlaps #[23, 23] #[4]) (by kernel_rfl),
      Lib.run_overlaps_apart w 23 4 33 hu 5 hsz2 ⟨g1, 0, none⟩ ⟨g, (i + 1) * 5, none⟩ 1 1 lb cb hne _ _ _ _ hsh1 hsh (by omega) (hfr 0) (hfr _)]
    rfl
  have HG := Lib.hid hg
  have HSRC : Hid (∀ j u, (xs.drop (i * 5))[j]? = some u → w.cell? ⟨g, i * 5 + j, none⟩ = some u) := fun j u hj => by
    rw [cell_of_row w g _ _ _ (0, 0) hg]
    rw [List.getElem?_drop, ← hx] at hj
    rw [List.getElem?_take] at hj
    split at hj
    · simpa using hj
    · cases hj
  have HSY : Hid (∀ w2 : World, w2.heap[g1]? = w.heap[g1]? → ∀ j u, ys[j]? = some u → w2.cell? ((⟨g1, 0, none⟩ : Addr).add j) = some u) := fun w2 h2 j u hj => by
    rw [Addr.add_lit, cell_of_row w2 g1 _ _ _ (0, 0) (h2.trans hg1)]
    simpa using hj
  have H1D : Hid (∀ u ∈ xs.drop (i * 5), u.oneCell' = true) := fun u hu => h1x u (List.mem_of_mem_drop hu)
  have H1Y := Lib.hid h1y
  have hF : ∀ w' : World, w'.heap[g]? = some (.cells (splice (splice cur ((i + 1) * 5) (xs.drop (i * 5))) (i * 5) ys).toArray 33 (0, 0)) → Hid (w'.ownsRow B 33 5 (.slice (some ⟨g, 0, none⟩) (n + 1) c) (n + 1) (xs.take (i * 5) ++ (ys ++ xs.drop (i * 5)))) := fun w' h => by
    have h1 : (splice cur ((i + 1) * 5) (xs.drop (i * 5))).length = c * 5 := by rw [length_splice _ _ _ (by rw [hdl, hcur]; omega), hcur]
    have h2 : (splice (splice cur ((i + 1) * 5) (xs.drop (i * 5))) (i * 5) ys).length = c * 5 := by rw [length_splice _ _ _ (by rw [hy, h1]; omega), h1]
    refine ⟨by simp [hxl, hy]; omega, .inr ⟨g, c, _, rfl, hB, h, hc, hcm, by simpa using h2, ?_⟩⟩
    have e1 : cur.take (i * 5) = xs.take (i * 5) := by rw [← hx, List.take_take, Nat.min_eq_left (by omega)]
    have l1 : (cur.take ((i + 1) * 5)).length = (i + 1) * 5 := by rw [List.length_take, hcur]; omega
    have e2 : (splice cur ((i + 1) * 5) (xs.drop (i * 5))).take (i * 5) = xs.take (i * 5) := by
      unfold splice
      rw [List.take_append_of_le_length (by rw [l1]; omega), List.take_take, Nat.min_eq_left (by omega), e1]
    have e3 : (splice cur ((i + 1) * 5) (xs.drop (i * 5))).drop (i * 5 + ys.length) = xs.drop (i * 5) ++ cur.drop ((i + 1) * 5 + (xs.drop (i * 5)).length) := by
      unfold splice
      rw [hy, show i * 5 + 5 = (i + 1) * 5 by omega, List.drop_append_of_le_length (by rw [l1]; omega), List.drop_of_length_le (by rw [l1]; omega), List.nil_append]
    have e4 : splice (splice cur ((i + 1) * 5) (xs.drop (i * 5))) (i * 5) ys = (xs.take (i * 5) ++ (ys ++ xs.drop (i * 5))) ++ cur.drop ((i + 1) * 5 + (xs.drop (i * 5)).length) := by
      conv => lhs; unfold splice
      rw [show List.take (i * 5) (List.take ((i + 1) * 5) cur ++ (xs.drop (i * 5) ++ List.drop ((i + 1) * 5 + (xs.drop (i * 5)).length) cur)) = xs.take (i * 5) from e2, show List.drop (i * 5 + ys.length) (List.take ((i + 1) * 5) cur ++ (xs.drop (i * 5) ++ List.drop ((i + 1) * 5 + (xs.drop (i * 5)).length) cur)) = _ from e3]
      simp only [List.append_assoc]
    simp only []
    rw [e4, List.take_append_of_le_length (by simp [hxl, hy]; omega), List.take_of_length_le (by simp [hxl, hy]; omega)]
  have HF := Lib.hid hF
  have hl1 : cur.length = c * 5 := hcur
  have hlc := Lib.hid hcur
  have w1 : IntKind.i64.wrap ((i : Int) + 1) = (i : Int) + 1 := IntWalk.i64_in _ (by omega)
  have w2 : IntKind.i64.wrap ((n : Int) + 1) = (n : Int) + 1 := IntWalk.i64_in _ (by omega)
  have b1 : (0 : Int) ≤ (i : Int) + 1 := by omega
  have b2 : ((i : Int) + 1).toNat = i + 1 := by omega
  have b3 : ((n : Int) + 1).toNat = n + 1 := by omega
  have b4 : ¬ (c = i + 1) := by omega
  have b5 : ¬ (c = i) := by omega
  have b6 : ((i : Int) == (n : Int)) = false := by simp; omega
  have b7 : decide ((c : Int) < (n : Int) + 1) = false := decide_eq_false (by omega)
  have hin : i ≤ n := by omega
  have hin1 : (i : Int) ≤ (n : Int) + 1 := by omega
  have hmin1 : Nat.min (n + 1 - i) (n - i) = n - i := by show min _ _ = _; omega
  have hmin2 : Nat.min 1 (n + 1 - i) = 1 := by show min _ _ = _; omega
  have HBg : Hid (∀ w' : World, w'.heap[g]? = w'.heap[g]?) := fun _ => rfl
  clear hg hg1 hx h1y h1x hsh hsh1 hfr hF hl1 hcur
  go_enter Tryz.func65, Tryz.ntmps65
  go_wp2_with (simp only [hov])
  go_region_law (refine step_copyK rfl (.tmp 73) (.tmp 76) 23 23 rfl 33 5 hu hsz (some ⟨g, (i + 1) * 5, none⟩) (some ⟨g, i * 5, none⟩) (n - i) (c - (i + 1)) (n + 1 - i) (c - i) (by simp [Act.eval, Act.put]) (by simp [Act.eval, Act.put]) g ((i + 1) * 5) cur 33 HG.out (xs.drop (i * 5)) (by decide) (by rw [hmin1]; exact hdl) (fun _ => ⟨rfl, ⟨g, i * 5, none⟩, rfl, fun j u hj => by rw [Addr.add_lit]; exact HSRC.out j u hj⟩) (by rw [hdl, hlc.out]; omega) H1D.out g w (below_drew1 _ _) (Nat.le_refl _) ?_; intro w4 hg4 hs4 hb4)
  have HG1 : Hid (∀ j u, ys[j]? = some u → w4.cell? ((⟨g1, 0, none⟩ : Addr).add j) = some u) := HSY.out w4 (hs4.out.2 g1 hne)
  clear hs4
  go_wp2_with (refine wpList_copyK rfl _ _ 23 23 rfl 33 5 hu hsz _ _ _ _ _ _ rfl rfl g (i * 5) (splice cur ((i + 1) * 5) (xs.drop (i * 5))) 33 ?d1 ys ?d2 ?d3 ?d4 ?d5 ?d6 g w ?d7 ?d8 ?_)
  case d1 => exact hg4.out
  case d2 => decide
  case d3 => rw [hmin2]; omega
  case d4 => exact fun j v h => by have := HG1.out j v h; rwa [Addr.add_lit, Nat.zero_add] at this
  case d5 => rw [hy, length_splice _ _ _ (by rw [hdl, hlc.out]; omega), hlc.out]; omega
  case d6 => exact H1Y.out
  case d7 => exact hb4
  case d8 => exact Nat.le_refl _
  intro w5 hg5 hs5 hb5
  clear hs5
  have HF5 := HF.out w5 hg5.out
  go_wp2
  go_returns
  exact ⟨_, rfl, HF5.out, hb5.mono hB⟩

set_option maxHeartbeats 4000000 in
set_option maxRecDepth 100000 in
/-- slices.Insert within the row, where there is no room -/
theorem insGrow_Bar (B g n i : Nat) (xs ys : List Value) (g1 : Nat) (w : World) (hB : B ≤ w.heap.size) (hg : w.heap[g]? = some (.cells xs.toArray 33 (0, 0))) (hg1 : w.heap[g1]? = some (.cells ys.toArray 33 (0, 0)))
    (hxl : xs.length = n * 5) (hi : i < n) (hy : ys.length = 5) (h1y : ∀ u ∈ ys, u.oneCell' = true) (h1x : ∀ u ∈ xs, u.oneCell' = true) (hn : n ≤ 1000000) :
    Calls Tryz.prog 65 #[.slice (some ⟨g, 0, none⟩) n n, .int .i64 i, .slice (some ⟨g1, 0, none⟩) 1 1] w fun e w' => ∃ v', e = .returned v' ∧ w'.ownsRow B 33 5 v' (n + 1) (xs.take (i * 5) ++ (ys ++ xs.drop (i * 5))) ∧ Below B w w' := by
  have hu : Tryz.prog.underlying 23 = some (.slice 33) := Tryz.underlying23
  have hui : Tryz.prog.underlying 3 = some (.int .i64) := Tryz.underlying3
  have hsz : (Tryz.prog.info? 33).map (·.size) = some 5 := by kernel_rfl
  obtain ⟨i0, hi0, hz0, hz1, hz2⟩ := info_parts info_Bar
  have hdl : (xs.drop (i * 5)).length = (n - i) * 5 := by rw [List.length_drop, hxl]; omega
  have htl : (xs.take (i * 5)).length = i * 5 := by rw [List.length_take, hxl]; omega
  have hgw : g < w.heap.size := (Array.getElem?_eq_some_iff.1 hg).1
  have hg1w : g1 < w.heap.size := (Array.getElem?_eq_some_iff.1 hg1).1
  obtain ⟨G, hG⟩ : ∃ G, grownCap w (n + 1) n 33 = G := ⟨_, rfl⟩
  have hG1 : n + 1 ≤ G := by rw [← hG]; exact grownCap_ge w _ _ _
  have hG2 : G ≤ maxLen := by rw [← hG]; exact grownCap_le_maxLen w _ _ _ (by unfold maxLen; omega)
  have hG3 : G ≤ 9223372036854775807 := by simpa [maxLen] using hG2
  have hold : (Builtin.firstCells i0.size i (.slice (some ⟨g, 0, none⟩) i n)).run Tryz.prog w.drew = .ok (xs.take (i * 5)).toArray w.drew := by
    rw [hz1]
    exact run_firstCells_some w.drew 5 i ⟨g, 0, none⟩ i n (xs.take (i * 5)) (by rw [htl]) (fun j v hj => by
      rw [Addr.add_lit]
      show w.cell? _ = _
      rw [cell_of_row w g _ _ _ (0, 0) hg]
      rw [List.getElem?_take] at hj
      split at hj
      · simpa using hj
      · cases hj)
  obtain ⟨ROW, hROW⟩ : ∃ ROW : List Value, ROW = xs.take (i * 5) ++ (Builtin.zeroCells ((.agg #[.string ⟨#[]⟩, .string ⟨#[]⟩, .string ⟨#[]⟩, .int .i64 0, .string ⟨#[]⟩] : Value)).cells (n + 1 - i)).toList ++ (Builtin.zeroCells ((.agg #[.string ⟨#[]⟩, .string ⟨#[]⟩, .string ⟨#[]⟩, .int .i64 0, .string ⟨#[]⟩] : Value)).cells (G - (n + 1))).toList := ⟨_, rfl⟩
  have hRl : ROW.length = G * 5 := by
    have hz : ((.agg #[.string ⟨#[]⟩, .string ⟨#[]⟩, .string ⟨#[]⟩, .int .i64 0, .string ⟨#[]⟩] : Value)).cells.size = 5 := rfl
    rw [hROW]
    simp only [List.length_append, htl, Array.length_toList, size_zeroCells, hz]
    omega
  have hRt : ROW.take (i * 5) = xs.take (i * 5) := by
    rw [hROW, List.append_assoc, List.take_append_of_le_length (by rw [htl]; omega), List.take_of_length_le (by rw [htl]; omega)]
  have hrz : ∀ ty, (Builtin.append_ #[23, 3] ty #[.slice (some ⟨g, 0, none⟩) i n, .int .i64 ((n : Int) + 1 - (i : Int))]).run Tryz.prog w =
      .ok (.slice (some ⟨w.heap.size, 0, none⟩) (n + 1) G) (w.drew.alloc (.cells ROW.toArray 33 (0, 0))) := fun ty => by
    have h := Lib.run_append_grow_zeros w 23 3 ty 33 i0 _ .i64 .i64 hu hui hi0 hz0 (some ⟨g, 0, none⟩) i n (xs.take (i * 5)) hold (n + 1 - i) (by omega) (by omega) (by omega) (by omega) (by rw [hz2]; omega) (by rw [hz2, show i + (n + 1 - i) = n + 1 by omega]; exact growslice_fits (by omega) (by omega))
    rw [show i + (n + 1 - i) = n + 1 by omega, hG] at h
    rw [show (n : Int) + 1 - (i : Int) = ((n + 1 - i : Nat) : Int) by omega, h, hROW]
    congr 3
    apply Array.ext'
    simp
  obtain ⟨N, hN⟩ : ∃ N, w.heap.size = N := ⟨_, rfl⟩
  have HN := Lib.hid hN
  obtain ⟨W1, hW1⟩ : ∃ W1, w.drew.alloc (.cells ROW.toArray 33 (0, 0)) = W1 := ⟨_, rfl⟩
  rw [hW1, hN] at hrz
  have HR1 : Hid (W1.heap[N]? = some (.cells ROW.toArray 33 (0, 0))) := by rw [← hW1, ← hN]; exact (MapKept.heap_alloc w.drew _).1
  have HB1 : Hid (Below N w W1) := by rw [← hW1, ← hN]; exact (below_drew1 _ _).alloc (Nat.le_refl _) _
  clear hW1
  have HG0 := Lib.hid hg
  have HG1 := Lib.hid hg1
  have hsy : ∀ w2 : World, w2.heap[g1]? = w.heap[g1]? → ∀ j u, ys[j]? = some u → w2.cell? ((⟨g1, 0, none⟩ : Addr).add j) = some u := fun w2 h2 j u hj => by
    rw [Addr.add_lit, cell_of_row w2 g1 _ _ _ (0, 0) (h2.trans HG1.out)]
    simpa using hj
  have HSY := Lib.hid hsy
  have hsx : ∀ w2 : World, w2.heap[g]? = w.heap[g]? → ∀ j u, (xs.drop (i * 5))[j]? = some u → w2.cell? ((⟨g, i * 5, none⟩ : Addr).add j) = some u := fun w2 h2 j u hj => by
    rw [Addr.add_lit, cell_of_row w2 g _ _ _ (0, 0) (h2.trans HG0.out)]
    rw [List.getElem?_drop] at hj
    simpa using hj
  have HSX := Lib.hid hsx
  have H1D : Hid (∀ u ∈ xs.drop (i * 5), u.oneCell' = true) := fun u hu => h1x u (List.mem_of_mem_drop hu)
  have H1Y := Lib.hid h1y
  have hF : ∀ w' : World, w'.heap[N]? = some (.cells (splice (splice ROW (i * 5) ys) ((i + 1) * 5) (xs.drop (i * 5))).toArray 33 (0, 0)) → Hid (w'.ownsRow B 33 5 (.slice (some ⟨N, 0, none⟩) (n + 1) G) (n + 1) (xs.take (i * 5) ++ (ys ++ xs.drop (i * 5)))) := fun w' h => by
    have h1 : (splice ROW (i * 5) ys).length = G * 5 := by rw [length_splice _ _ _ (by rw [hy, hRl]; omega), hRl]
    have h2 : (splice (splice ROW (i * 5) ys) ((i + 1) * 5) (xs.drop (i * 5))).length = G * 5 := by rw [length_splice _ _ _ (by rw [hdl, h1]; omega), h1]
    refine ⟨by simp [hxl, hy]; omega, .inr ⟨N, G, _, rfl, by omega, h, hG1, hG2, by simpa using h2, ?_⟩⟩
    have e2 : splice ROW (i * 5) ys = (xs.take (i * 5) ++ ys) ++ ROW.drop (i * 5 + ys.length) := by
      unfold splice
      rw [hRt, List.append_assoc]
    have l2 : (xs.take (i * 5) ++ ys).length = (i + 1) * 5 := by rw [List.length_append, htl, hy]; omega
    have e4 : splice (splice ROW (i * 5) ys) ((i + 1) * 5) (xs.drop (i * 5)) = (xs.take (i * 5) ++ (ys ++ xs.drop (i * 5))) ++ (splice ROW (i * 5) ys).drop ((i + 1) * 5 + (xs.drop (i * 5)).length) := by
      conv => lhs; unfold splice
      rw [show List.take ((i + 1) * 5) (List.take (i * 5) ROW ++ (ys ++ List.drop (i * 5 + ys.length) ROW)) = xs.take (i * 5) ++ ys from by
        have := e2
        unfold splice at this
        rw [this, List.take_append_of_le_length (by rw [l2]; omega), List.take_of_length_le (by rw [l2]; omega)]]
      simp only [List.append_assoc]
      rfl
    simp only []
    rw [e4, List.take_append_of_le_length (by simp [hxl, hy]; omega), List.take_of_length_le (by simp [hxl, hy]; omega)]
  have HF := Lib.hid hF
  have HRL := Lib.hid hRl
  have k1 : IntKind.i64.wrap ((i : Int) + 1) = (i : Int) + 1 := IntWalk.i64_in _ (by omega)
  have k2 : IntKind.i64.wrap ((n : Int) + 1) = (n : Int) + 1 := IntWalk.i64_in _ (by omega)
  have k3 : IntKind.i64.wrap ((n : Int) + 1 - (i : Int)) = (n : Int) + 1 - (i : Int) := IntWalk.i64_in _ (by omega)
  have b1 : (0 : Int) ≤ (i : Int) + 1 := by omega
  have b2 : ((i : Int) + 1).toNat = i + 1 := by omega
  have b3 : ((n : Int) + 1).toNat = n + 1 := by omega
  have b4 : ¬ (G = i + 1) := by omega
  have b5 : ¬ (G = i) := by omega
  have b8 : ¬ (n = i) := by omega
  have b6 : ((i : Int) == (n : Int)) = false := by simp; omega
  have b7 : decide ((n : Int) < (n : Int) + 1) = true := decide_eq_true (by omega)
  have hin : i ≤ n := by omega
  have hin1 : (i : Int) ≤ (n : Int) + 1 := by omega
  have hin2 : (i : Int) ≤ (n : Int) := by omega
  have hmin1 : Nat.min (n - i) (n - i) = n - i := by show min _ _ = _; omega
  have hmin2 : Nat.min 1 (n + 1 - i) = 1 := by show min _ _ = _; omega
  have hgN : g ≠ N := by omega
  have hgN1 : g < N := by omega
  have hgN2 : g1 < N := by omega
  have hg1N : g1 ≠ N := by omega
  clear hg hg1 h1y h1x hF hRl hRt hROW hold hsy hsx hN hG
  go_enter Tryz.func65, Tryz.ntmps65
  go_wp2_with (first
    | (at_builtin; refine Lib.wpList_append_run _ rfl _ _ _ _ rfl _ _ rfl rfl _ _ (hrz _) ?_)
    | (refine wpList_copyK rfl _ _ 23 23 rfl 33 5 hu hsz _ _ _ _ _ _ rfl rfl N (i * 5) ROW 33 ?d1 ys ?d2 ?d3 ?d4 ?d5 ?d6 N w ?d7 ?d8 ?_))
  case d1 => exact HR1.out
  case d2 => decide
  case d3 => rw [hmin2]; omega
  case d4 => exact fun j v h => by have := HSY.out W1 (HB1.out.block g1 (by omega)) j v h; rwa [Addr.add_lit, Nat.zero_add] at this
  case d5 => rw [hy, HRL.out]; omega
  case d6 => exact H1Y.out
  case d7 => exact HB1.out
  case d8 => exact Nat.le_refl _
  intro w4 hg4 hs4 hb4
  have HSX4 : Hid (∀ j u, (xs.drop (i * 5))[j]? = some u → w4.cell? ((⟨g, i * 5, none⟩ : Addr).add j) = some u) := HSX.out w4 (hb4.block g (by omega))
  clear hs4
  go_wp2_with fail
  go_region_law (refine step_copyK rfl (.tmp 50) (.tmp 53) 23 23 rfl 33 5 hu hsz (some ⟨N, (i + 1) * 5, none⟩) (some ⟨g, i * 5, none⟩) (n - i) (G - (i + 1)) (n - i) (n - i) (by simp [Act.eval, Act.put]) (by simp [Act.eval, Act.put]) N ((i + 1) * 5) (splice ROW (i * 5) ys) 33 hg4.out (xs.drop (i * 5)) (by decide) (by rw [hmin1]; exact hdl) (fun _ => ⟨rfl, _, rfl, HSX4.out⟩) (by rw [hdl, length_splice _ _ _ (by rw [hy, HRL.out]; omega), HRL.out]; omega) H1D.out N w (Below.trans hb4 (below_drew1 _ _)) (Nat.le_refl _) ?_; intro w5 hg5 hs5 hb5)
  clear hs5
  have HF5 := HF.out w5 hg5.out
  go_wp2
  go_returns
  exact ⟨_, rfl, HF5.out, hb5.mono (by have := HN.out; omega)⟩
end Go.Proofs.YtiddpaaihloopaaGreatDoor
