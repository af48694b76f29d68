/-
  slices.Clone at ints, plates and bars, by walks. Conditions: at most 10^6 elements. By an AI agent.
-/
import Derived.Test.YtgbhhjdmochhpaaGreatDoorStockP
import Derived.Lib.SliceRun
namespace Go.Proofs.YtgbhhjdmochhpaaGreatDoor
open Go Go.RowKit
set_option linter.unusedVariables false
set_option linter.unusedSimpArgs false

theorem info_int : (Tryz.prog.info? 3).map (fun i => (i.zero, i.size, i.bytes)) = some (some (.int .i64 0), 1, 8) := by kernel_rfl
set_option maxHeartbeats 2000000 in
theorem clone_int (oa : Option Addr) (n c : Nat) (xs : List Value) (w : World) (hl : xs.length = n * 1) (hn : n ≤ 1100000) (h0 : oa = none → n = 0)
    (hc : ∀ ad, oa = some ad → ∀ j u, xs[j]? = some u → w.cell? (ad.add j) = some u) (h1 : ∀ u ∈ xs, u.oneCell' = true) :
    Calls Tryz.prog 64 #[.slice oa n c] w fun e w' => ∃ v', e = .returned v' ∧ w'.ownsRow w.heap.size 3 1 v' n xs ∧ Below w.heap.size w w' := by
  have hu : Tryz.prog.underlying 29 = some (.slice 3) := Tryz.underlying29
  have q : ∀ (w : World) (a : Option Addr) (n c n' c' : Nat), (binOp .eql 29 (.slice a n c) (.slice none n' c')).run Tryz.prog w = .ok (.bool a.isNone) w := fun w a n c n' c' => Lib.run_eql_slice_nil w _ _ a n c n' c' hu
  obtain ⟨i0, hi, hz0, hz1, hz2⟩ := info_parts info_int
  cases oa with
  | none =>
    have hn0 := h0 rfl
    subst hn0
    have hx : xs = [] := List.eq_nil_of_length_eq_zero (by omega)
    subst hx
    clear hc h1 hl h0
    go_enter Tryz.func64, Tryz.ntmps64
    go_wp2
    go_returns
    exact ⟨_, rfl, World.ownsRow_nil _ _ _ _, Below.refl _ _⟩
  | some ad =>
    have HC : Hid (∀ j u, xs[j]? = some u → w.cell? (ad.add j) = some u) := hc ad rfl
    have HLT : Hid (∀ j u, xs[j]? = some u → (ad.add j).block < w.heap.size) := fun j u hj => by
      have := HC.out j u hj
      rcases Nat.lt_or_ge (ad.add j).block w.heap.size with h' | h'
      · exact h'
      · simp [World.cell?, Array.getElem?_eq_none h'] at this
    have H1 := Lib.hid h1
    clear hc h1 h0
    go_enter Tryz.func64, Tryz.ntmps64
    go_wp2_with (at_builtin; refine wpList_append_own _ rfl _ _ 29 rfl w.heap.size 3 i0 _ 1 8 hu hi hz0 hz1 hz2 rfl (by decide) _ _ _ rfl (World.ownsRow_made w #[] 0 (Nat.le_refl _) (Nat.zero_le _) (by simp)) ad n c xs rfl ?c1 ?c2 ?c3 ?c4 ?c5 ?c6 ?_)
    case c1 => exact hl
    case c2 =>
      intro j u hj
      exact (World.cell?_alloc_lt _ _ _ (HLT.out j u hj)).trans (HC.out j u hj)
    case c3 => exact H1.out
    case c4 => unfold maxLen; omega
    case c5 => omega
    case c6 => simp
    intro v' w1 hown hgrow _
    have hB : Below w.heap.size w w1 := ((Below.refl _ w).alloc (Nat.le_refl _) _).grown hgrow (by simp) (by intro k hk; simp [Value.ownBlock] at hk; omega)
    have HB := Lib.hid hB
    have HO : Hid (w1.ownsRow w.heap.size 3 1 v' n xs) := by
      show World.ownsRow _ _ _ _ _ _ _
      simpa using hown
    clear hown hgrow hB
    go_wp2
    go_returns
    exact ⟨_, rfl, HO.out, HB.out⟩

end Go.Proofs.YtgbhhjdmochhpaaGreatDoor
