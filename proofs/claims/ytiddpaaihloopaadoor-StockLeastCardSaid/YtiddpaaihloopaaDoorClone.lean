/-
  slices.Clone at ints, plates and bars, by walks. Conditions: at most 10^6 elements. By an AI agent.
-/
import Derived.Test.YtiddpaaihloopaaDoorStockP
import Derived.Lib.SliceRun
namespace Go.Proofs.YtiddpaaihloopaaDoor
open Go Go.RowKit
set_option linter.unusedVariables false
set_option linter.unusedSimpArgs false

theorem info_int : (Tryd.prog.info? 3).map (fun i => (i.zero, i.size, i.bytes)) = some (some (.int .i64 0), 1, 8) := by kernel_rfl
set_option maxHeartbeats 2000000 in
theorem clone_int (oa : Option Addr) (n c : Nat) (xs : List Value) (w : World) (hl : xs.length = n * 1) (hn : n ≤ 1000000) (h0 : oa = none → n = 0)
    (hc : ∀ ad, oa = some ad → ∀ j u, xs[j]? = some u → w.cell? (ad.add j) = some u) (h1 : ∀ u ∈ xs, u.oneCell' = true) :
    Calls Tryd.prog 69 #[.slice oa n c] w fun e w' => ∃ v', e = .returned v' ∧ w'.ownsRow w.heap.size 3 1 v' n xs ∧ Below w.heap.size w w' := by
  have hu : Tryd.prog.underlying 90 = some (.slice 3) := Tryd.underlying90
  have q : ∀ (w : World) (a : Option Addr) (n c n' c' : Nat), (binOp .eql 90 (.slice a n c) (.slice none n' c')).run Tryd.prog w = .ok (.bool a.isNone) w := fun w a n c n' c' => Lib.run_eql_slice_nil w _ _ a n c n' c' hu
  obtain ⟨i0, hi, hz0, hz1, hz2⟩ := info_parts info_int
  cases oa with
  | none =>
    have hn0 := h0 rfl
    subst hn0
    have hx : xs = [] := List.eq_nil_of_length_eq_zero (by omega)
    subst hx
    clear hc h1 hl h0
    go_enter Tryd.func69, Tryd.ntmps69
    go_wp2
    go_returns
    exact ⟨_, rfl, World.ownsRow_nil _ _ _ _, Below.refl _ _⟩
  | some ad =>
    have HC : Hid (∀ j u, xs[j]? = some u → w.cell? (ad.add j) = some u) := hc ad rfl
    have HLT : Hid (∀ j u, xs[j]? = some u → (ad.add j).block < w.heap.size) := fun j u hj => by
      have := HC.out j u hj
      rcases Nat.lt_or_ge (ad.add j).block w.heap.size with h' | h'
      · exact h'
      · simp [World.cell?, Array.getElem?_eq_none h'] at this
    have H1 := Lib.hid h1
    clear hc h1 h0
    go_enter Tryd.func69, Tryd.ntmps69
    go_wp2_with (at_builtin; refine wpList_append_own _ rfl _ _ 90 rfl w.heap.size 3 i0 _ 1 8 hu hi hz0 hz1 hz2 rfl (by decide) _ _ _ rfl (World.ownsRow_made w #[] 0 (Nat.le_refl _) (Nat.zero_le _) (by simp)) ad n c xs rfl ?c1 ?c2 ?c3 ?c4 ?c5 ?c6 ?_)
    case c1 => exact hl
    case c2 =>
      intro j u hj
      exact (World.cell?_alloc_lt _ _ _ (HLT.out j u hj)).trans (HC.out j u hj)
    case c3 => exact H1.out
    case c4 => unfold maxLen; omega
    case c5 => omega
    case c6 => simp
    intro v' w1 hown hgrow _
    have hB : Below w.heap.size w w1 := ((Below.refl _ w).alloc (Nat.le_refl _) _).grown hgrow (by simp) (by intro k hk; simp [Value.ownBlock] at hk; omega)
    have HB := Lib.hid hB
    have HO : Hid (w1.ownsRow w.heap.size 3 1 v' n xs) := by
      show World.ownsRow _ _ _ _ _ _ _
      simpa using hown
    clear hown hgrow hB
    go_wp2
    go_returns
    exact ⟨_, rfl, HO.out, HB.out⟩

theorem info_Sheet : (Tryd.prog.info? 38).map (fun i => (i.zero, i.size, i.bytes)) = some (some (.agg #[.string ⟨#[]⟩, .string ⟨#[]⟩, .int .i64 0, .int .i64 0, .int .i64 0, .string ⟨#[]⟩]), 6, 72) := by kernel_rfl
set_option maxHeartbeats 2000000 in
theorem clone_Sheet (oa : Option Addr) (n c : Nat) (xs : List Value) (w : World) (hl : xs.length = n * 6) (hn : n ≤ 1000000) (h0 : oa = none → n = 0)
    (hc : ∀ ad, oa = some ad → ∀ j u, xs[j]? = some u → w.cell? (ad.add j) = some u) (h1 : ∀ u ∈ xs, u.oneCell' = true) :
    Calls Tryd.prog 56 #[.slice oa n c] w fun e w' => ∃ v', e = .returned v' ∧ w'.ownsRow w.heap.size 38 6 v' n xs ∧ Below w.heap.size w w' := by
  have hu : Tryd.prog.underlying 22 = some (.slice 38) := Tryd.underlying22
  have q : ∀ (w : World) (a : Option Addr) (n c n' c' : Nat), (binOp .eql 22 (.slice a n c) (.slice none n' c')).run Tryd.prog w = .ok (.bool a.isNone) w := fun w a n c n' c' => Lib.run_eql_slice_nil w _ _ a n c n' c' hu
  obtain ⟨i0, hi, hz0, hz1, hz2⟩ := info_parts info_Sheet
  cases oa with
  | none =>
    have hn0 := h0 rfl
    subst hn0
    have hx : xs = [] := List.eq_nil_of_length_eq_zero (by omega)
    subst hx
    clear hc h1 hl h0
    go_enter Tryd.func56, Tryd.ntmps56
    go_wp2
    go_returns
    exact ⟨_, rfl, World.ownsRow_nil _ _ _ _, Below.refl _ _⟩
  | some ad =>
    have HC : Hid (∀ j u, xs[j]? = some u → w.cell? (ad.add j) = some u) := hc ad rfl
    have HLT : Hid (∀ j u, xs[j]? = some u → (ad.add j).block < w.heap.size) := fun j u hj => by
      have := HC.out j u hj
      rcases Nat.lt_or_ge (ad.add j).block w.heap.size with h' | h'
      · exact h'
      · simp [World.cell?, Array.getElem?_eq_none h'] at this
    have H1 := Lib.hid h1
    clear hc h1 h0
    go_enter Tryd.func56, Tryd.ntmps56
    go_wp2_with (at_builtin; refine wpList_append_own _ rfl _ _ 22 rfl w.heap.size 38 i0 _ 6 72 hu hi hz0 hz1 hz2 rfl (by decide) _ _ _ rfl (World.ownsRow_made w #[] 0 (Nat.le_refl _) (Nat.zero_le _) (by simp)) ad n c xs rfl ?c1 ?c2 ?c3 ?c4 ?c5 ?c6 ?_)
    case c1 => exact hl
    case c2 =>
      intro j u hj
      exact (World.cell?_alloc_lt _ _ _ (HLT.out j u hj)).trans (HC.out j u hj)
    case c3 => exact H1.out
    case c4 => unfold maxLen; omega
    case c5 => omega
    case c6 => simp
    intro v' w1 hown hgrow _
    have hB : Below w.heap.size w w1 := ((Below.refl _ w).alloc (Nat.le_refl _) _).grown hgrow (by simp) (by intro k hk; simp [Value.ownBlock] at hk; omega)
    have HB := Lib.hid hB
    have HO : Hid (w1.ownsRow w.heap.size 38 6 v' n xs) := by
      show World.ownsRow _ _ _ _ _ _ _
      simpa using hown
    clear hown hgrow hB
    go_wp2
    go_returns
    exact ⟨_, rfl, HO.out, HB.out⟩

theorem info_Bar : (Tryd.prog.info? 40).map (fun i => (i.zero, i.size, i.bytes)) = some (some (.agg #[.string ⟨#[]⟩, .string ⟨#[]⟩, .string ⟨#[]⟩, .int .i64 0, .string ⟨#[]⟩]), 5, 72) := by kernel_rfl
set_option maxHeartbeats 2000000 in
theorem clone_Bar (oa : Option Addr) (n c : Nat) (xs : List Value) (w : World) (hl : xs.length = n * 5) (hn : n ≤ 1000000) (h0 : oa = none → n = 0)
    (hc : ∀ ad, oa = some ad → ∀ j u, xs[j]? = some u → w.cell? (ad.add j) = some u) (h1 : ∀ u ∈ xs, u.oneCell' = true) :
    Calls Tryd.prog 57 #[.slice oa n c] w fun e w' => ∃ v', e = .returned v' ∧ w'.ownsRow w.heap.size 40 5 v' n xs ∧ Below w.heap.size w w' := by
  have hu : Tryd.prog.underlying 23 = some (.slice 40) := Tryd.underlying23
  have q : ∀ (w : World) (a : Option Addr) (n c n' c' : Nat), (binOp .eql 23 (.slice a n c) (.slice none n' c')).run Tryd.prog w = .ok (.bool a.isNone) w := fun w a n c n' c' => Lib.run_eql_slice_nil w _ _ a n c n' c' hu
  obtain ⟨i0, hi, hz0, hz1, hz2⟩ := info_parts info_Bar
  cases oa with
  | none =>
    have hn0 := h0 rfl
    subst hn0
    have hx : xs = [] := List.eq_nil_of_length_eq_zero (by omega)
    subst hx
    clear hc h1 hl h0
    go_enter Tryd.func57, Tryd.ntmps57
    go_wp2
    go_returns
    exact ⟨_, rfl, World.ownsRow_nil _ _ _ _, Below.refl _ _⟩
  | some ad =>
    have HC : Hid (∀ j u, xs[j]? = some u → w.cell? (ad.add j) = some u) := hc ad rfl
    have HLT : Hid (∀ j u, xs[j]? = some u → (ad.add j).block < w.heap.size) := fun j u hj => by
      have := HC.out j u hj
      rcases Nat.lt_or_ge (ad.add j).block w.heap.size with h' | h'
      · exact h'
      · simp [World.cell?, Array.getElem?_eq_none h'] at this
    have H1 := Lib.hid h1
    clear hc h1 h0
    go_enter Tryd.func57, Tryd.ntmps57
    go_wp2_with (at_builtin; refine wpList_append_own _ rfl _ _ 23 rfl w.heap.size 40 i0 _ 5 72 hu hi hz0 hz1 hz2 rfl (by decide) _ _ _ rfl (World.ownsRow_made w #[] 0 (Nat.le_refl _) (Nat.zero_le _) (by simp)) ad n c xs rfl ?c1 ?c2 ?c3 ?c4 ?c5 ?c6 ?_)
    case c1 => exact hl
    case c2 =>
      intro j u hj
      exact (World.cell?_alloc_lt _ _ _ (HLT.out j u hj)).trans (HC.out j u hj)
    case c3 => exact H1.out
    case c4 => unfold maxLen; omega
    case c5 => omega
    case c6 => simp
    intro v' w1 hown hgrow _
    have hB : Below w.heap.size w w1 := ((Below.refl _ w).alloc (Nat.le_refl _) _).grown hgrow (by simp) (by intro k hk; simp [Value.ownBlock] at hk; omega)
    have HB := Lib.hid hB
    have HO : Hid (w1.ownsRow w.heap.size 40 5 v' n xs) := by
      show World.ownsRow _ _ _ _ _ _ _
      simpa using hown
    clear hown hgrow hB
    go_wp2
    go_returns
    exact ⟨_, rfl, HO.out, HB.out⟩
end Go.Proofs.YtiddpaaihloopaaDoor
