/-
  slices.Insert of one element at plates and bars, by walks. Conditions: a row of the caller's own, at most 10^6 elements. By an AI agent.
-/
import Derived.Test.YtiddpaaihloopaaGreatDoorClone
import Derived.Lib.Overlaps
import Derived.Lib.AppendZeros
import Derived.Lib.AppendZerosOnto
import Derived.Laws.NewBlocks
namespace Go.Proofs.YtiddpaaihloopaaGreatDoor
open Go Go.RowKit
set_option linter.unusedVariables false
set_option linter.unusedSimpArgs false

set_option maxHeartbeats 2000000 in
set_option maxRecDepth 100000 in
/-- slices.Insert at the end -/
theorem insEnd_Sheet (B : Nat) (v : Value) (n : Nat) (xs ys : List Value) (g1 : Nat) (w : World) (hB : B ≤ w.heap.size) (ho : w.ownsRow B 31 6 v n xs) (hg1 : w.heap[g1]? = some (.cells ys.toArray 31 (0, 0)))
    (hy : ys.length = 6) (h1y : ∀ u ∈ ys, u.oneCell' = true) (hn : n ≤ 1000000) :
    Calls Tryz.prog 55 #[v, .int .i64 n, .slice (some ⟨g1, 0, none⟩) 1 1] w fun e w' => ∃ v', e = .returned v' ∧ w'.ownsRow B 31 6 v' (n + 1) (xs ++ ys) ∧ Below B w w' := by
  have hu : Tryz.prog.underlying 22 = some (.slice 31) := Tryz.underlying22
  obtain ⟨i0, hi, hz0, hz1, hz2⟩ := info_parts info_Sheet
  have HY : Hid (∀ j u, ys[j]? = some u → w.cell? ((⟨g1, 0, none⟩ : Addr).add j) = some u) := fun j u hj => by
    rw [Addr.add_lit, cell_of_row w g1 _ _ _ (0, 0) hg1]
    simpa using hj
  have H1 := Lib.hid h1y
  clear h1y hg1
  have HO := Lib.hid ho
  obtain ⟨oa, c, hv, hc, h0⟩ : ∃ (oa : Option Nat) (c : Nat), v = .slice (oa.map fun g => ⟨g, 0, none⟩) n c ∧ n ≤ c ∧ (oa = none → n = 0 ∧ c = 0) := by
    rcases ho.2 with ⟨h, h0⟩ | ⟨g, cap, cur, h, _, _, hnc, _⟩
    · exact ⟨none, 0, by rw [h, h0]; rfl, by omega, fun _ => ⟨h0, rfl⟩⟩
    · exact ⟨some g, cap, h, hnc, fun h => by cases h⟩
  clear ho
  have hHD : ∀ v' w1, w1.ownsRow B 31 6 v' (n + 1) (xs ++ ys) → w.grownBy w1 v.ownBlock → Hid (w1.ownsRow B 31 6 v' (n + 1) (xs ++ ys) ∧ Below B w w1) := fun v' w1 h1 h2 => ⟨h1, (Below.refl _ w).grown h2 hB (fun q hq => owns_new HO.out q hq)⟩
  have HD := Lib.hid hHD
  clear hHD
  cases oa with
  | none =>
    obtain ⟨rfl, rfl⟩ := h0 rfl
    clear h0
    simp only [Option.map_none] at hv
    subst hv
    go_enter Tryz.func55, Tryz.ntmps55
    go_wp2_with (at_builtin; refine wpList_append_own _ rfl _ _ 22 rfl B 31 i0 _ 6 72 hu hi hz0 hz1 hz2 rfl (by decide) _ _ _ rfl HO.out ⟨g1, 0, none⟩ 1 1 ys rfl ?c1 HY.out H1.out ?c2 ?c3 ?c4 ?_)
    case c1 => omega
    case c2 => unfold maxLen; omega
    case c3 => omega
    case c4 => omega
    intro v' w1 hown hgrow _
    have HF := HD.out v' w1 hown hgrow
    clear hown hgrow
    go_wp2
    go_returns
    exact ⟨_, rfl, HF.out.1, HF.out.2⟩
  | some g =>
    simp only [Option.map_some] at hv
    clear h0
    subst hv
    go_enter Tryz.func55, Tryz.ntmps55
    go_wp2_with (at_builtin; refine wpList_append_own _ rfl _ _ 22 rfl B 31 i0 _ 6 72 hu hi hz0 hz1 hz2 rfl (by decide) _ _ _ rfl HO.out ⟨g1, 0, none⟩ 1 1 ys rfl ?c1 HY.out H1.out ?c2 ?c3 ?c4 ?_)
    all_goals (try case c1 => omega)
    all_goals (try case c2 => unfold maxLen; omega)
    all_goals (try case c3 => omega)
    all_goals (try case c4 => omega)
    all_goals (intro v' w1 hown hgrow _)
    all_goals (have HF := HD.out v' w1 hown hgrow)
    all_goals (clear hown hgrow)
    all_goals go_wp2
    all_goals go_returns
    all_goals exact ⟨_, rfl, HF.out.1, HF.out.2⟩

set_option maxHeartbeats 2000000 in
set_option maxRecDepth 100000 in
/-- slices.Insert at the end -/
theorem insEnd_Bar (B : Nat) (v : Value) (n : Nat) (xs ys : List Value) (g1 : Nat) (w : World) (hB : B ≤ w.heap.size) (ho : w.ownsRow B 33 5 v n xs) (hg1 : w.heap[g1]? = some (.cells ys.toArray 33 (0, 0)))
    (hy : ys.length = 5) (h1y : ∀ u ∈ ys, u.oneCell' = true) (hn : n ≤ 1000000) :
    Calls Tryz.prog 65 #[v, .int .i64 n, .slice (some ⟨g1, 0, none⟩) 1 1] w fun e w' => ∃ v', e = .returned v' ∧ w'.ownsRow B 33 5 v' (n + 1) (xs ++ ys) ∧ Below B w w' := by
  have hu : Tryz.prog.underlying 23 = some (.slice 33) := Tryz.underlying23
  obtain ⟨i0, hi, hz0, hz1, hz2⟩ := info_parts info_Bar
  have HY : Hid (∀ j u, ys[j]? = some u → w.cell? ((⟨g1, 0, none⟩ : Addr).add j) = some u) := fun j u hj => by
    rw [Addr.add_lit, cell_of_row w g1 _ _ _ (0, 0) hg1]
    simpa using hj
  have H1 := Lib.hid h1y
  clear h1y hg1
  have HO := Lib.hid ho
  obtain ⟨oa, c, hv, hc, h0⟩ : ∃ (oa : Option Nat) (c : Nat), v = .slice (oa.map fun g => ⟨g, 0, none⟩) n c ∧ n ≤ c ∧ (oa = none → n = 0 ∧ c = 0) := by
    rcases ho.2 with ⟨h, h0⟩ | ⟨g, cap, cur, h, _, _, hnc, _⟩
    · exact ⟨none, 0, by rw [h, h0]; rfl, by omega, fun _ => ⟨h0, rfl⟩⟩
    · exact ⟨some g, cap, h, hnc, fun h => by cases h⟩
  clear ho
  have hHD : ∀ v' w1, w1.ownsRow B 33 5 v' (n + 1) (xs ++ ys) → w.grownBy w1 v.ownBlock → Hid (w1.ownsRow B 33 5 v' (n + 1) (xs ++ ys) ∧ Below B w w1) := fun v' w1 h1 h2 => ⟨h1, (Below.refl _ w).grown h2 hB (fun q hq => owns_new HO.out q hq)⟩
  have HD := Lib.hid hHD
  clear hHD
  cases oa with
  | none =>
    obtain ⟨rfl, rfl⟩ := h0 rfl
    clear h0
    simp only [Option.map_none] at hv
    subst hv
    go_enter Tryz.func65, Tryz.ntmps65
    go_wp2_with (at_builtin; refine wpList_append_own _ rfl _ _ 23 rfl B 33 i0 _ 5 72 hu hi hz0 hz1 hz2 rfl (by decide) _ _ _ rfl HO.out ⟨g1, 0, none⟩ 1 1 ys rfl ?c1 HY.out H1.out ?c2 ?c3 ?c4 ?_)
    case c1 => omega
    case c2 => unfold maxLen; omega
    case c3 => omega
    case c4 => omega
    intro v' w1 hown hgrow _
    have HF := HD.out v' w1 hown hgrow
    clear hown hgrow
    go_wp2
    go_returns
    exact ⟨_, rfl, HF.out.1, HF.out.2⟩
  | some g =>
    simp only [Option.map_some] at hv
    clear h0
    subst hv
    go_enter Tryz.func65, Tryz.ntmps65
    go_wp2_with (at_builtin; refine wpList_append_own _ rfl _ _ 23 rfl B 33 i0 _ 5 72 hu hi hz0 hz1 hz2 rfl (by decide) _ _ _ rfl HO.out ⟨g1, 0, none⟩ 1 1 ys rfl ?c1 HY.out H1.out ?c2 ?c3 ?c4 ?_)
    all_goals (try case c1 => omega)
    all_goals (try case c2 => unfold maxLen; omega)
    all_goals (try case c3 => omega)
    all_goals (try case c4 => omega)
    all_goals (intro v' w1 hown hgrow _)
    all_goals (have HF := HD.out v' w1 hown hgrow)
    all_goals (clear hown hgrow)
    all_goals go_wp2
    all_goals go_returns
    all_goals exact ⟨_, rfl, HF.out.1, HF.out.2⟩
end Go.Proofs.YtiddpaaihloopaaGreatDoor
