/-
  The edges of the reference, by walks. Conditions: none. By an AI agent.
-/
import Derived.Test.YtpjdmjmgkdgfnaaMeshE
import Derived.Laws.AppendOwn
namespace Go.Proofs.Ytpjdmjmgkdgfnaa
open Go Go.RowKit
set_option linter.unusedVariables false
set_option linter.unusedSimpArgs false
set_option maxRecDepth 100000

theorem infoE_parts {i? : Option TypeInfo} {z : Value} {s b : Nat} (h : i?.map (fun i => (i.zero, i.size, i.bytes)) = some (some z, s, b)) : ∃ i, i? = some i ∧ i.zero = some z ∧ i.size = s ∧ i.bytes = b := by
  cases i? with
  | none => cases h
  | some i => simp only [Option.map_some, Option.some.injEq, Prod.mk.injEq] at h; exact ⟨i, rfl, h.1, h.2.1, h.2.2⟩
theorem owns_on {w w' : World} {B : Nat} {t : TypeId} {k n : Nat} {v : Value} {xs : List Value} (h : w.ownsRow B t k v n xs) (hb : Below w.heap.size w w') : w'.ownsRow B t k v n xs := by
  obtain ⟨h1, h2 | ⟨g, cap, cur, e, hg, hc, r⟩⟩ := h
  · exact ⟨h1, .inl h2⟩
  · have hlt : g < w.heap.size := by
      rcases Nat.lt_or_ge g w.heap.size with h' | h'
      · exact h'
      · simp [Array.getElem?_eq_none h'] at hc
    exact ⟨h1, .inr ⟨g, cap, cur, e, hg, (hb.block g hlt).trans hc, r⟩⟩
theorem owns_low {w : World} {B : Nat} {t : TypeId} {k n : Nat} {v : Value} {xs : List Value} (h : w.ownsRow B t k v n xs) {b : Nat} (hb : b < B) : some b ≠ v.ownBlock := fun e => by
  obtain ⟨-, ⟨rfl, -⟩ | ⟨g, cap, cur, rfl, hg, -⟩⟩ := h
  · cases e
  · simp [Value.ownBlock] at e; omega
theorem owns_base {w : World} {B B' : Nat} {t : TypeId} {k n : Nat} {v : Value} {xs : List Value} (h : w.ownsRow B t k v n xs) (hb : B' ≤ B) : w.ownsRow B' t k v n xs := by
  obtain ⟨h1, h2 | ⟨g, cap, cur, e, hg, r⟩⟩ := h
  · exact ⟨h1, .inl h2⟩
  · exact ⟨h1, .inr ⟨g, cap, cur, e, by omega, r⟩⟩
def flatE (l : List E2) : List Value := l.flatMap fun e => [.int .i64 e.1, .int .i64 e.2]
theorem flatE_app (l m : List E2) : flatE (l ++ m) = flatE l ++ flatE m := by simp [flatE]
theorem info_e2 : (Try.prog.info? 67).map (fun i => (i.zero, i.size, i.bytes)) = some (some (.agg #[.int .i64 0, .int .i64 0]), 2, 16) := by kernel_rfl

set_option maxHeartbeats 4000000 in
theorem edges_any (v : Value) (np nf : Nat) (P F : Nat → V) (w : World) (h : MAt w v np P nf F) (hn : nf ≤ 2048) :
    Calls Try.prog 35 #[v] w fun e w' => ∃ v', e = .returned v' ∧ w'.ownsRow w.heap.size 67 2 v' (3 * nf) (flatE (edgesL F nf)) ∧ Below w.heap.size w w' := by
  have hu : Try.prog.underlying 65 = some (.slice 67) := Try.underlying65
  obtain ⟨i0, hi, hz0, hz1, hz2⟩ := infoE_parts info_e2
  obtain ⟨vp, vf, rfl, g1, g2⟩ := h
  obtain ⟨op, cp, rfl, -, -, -⟩ := g1.form
  obtain ⟨of', cf, rfl, hnf, hcf, hel⟩ := g2.form
  have HEL := Lib.hid hel
  clear g1 g2 hel
  go_enter Try.func35, Try.ntmps35
  go_wp2
  go_loopw [3, 4] (fun l i wr => ∃ j : Nat, j ≤ nf ∧ i = .int .i64 j ∧ Hid (wr.ownsRow (w.heap.size + 1) 67 2 l (3 * j) (flatE (edgesL F j))) ∧ wr.cell? ⟨w.heap.size, 1, none⟩ = some (.slice of' nf cf) ∧ w.heap.size < wr.heap.size ∧ Below w.heap.size w wr) (fun _ i _ => nf - (intOf i).toNat)
  case atStart =>
    exact ⟨0, by omega, rfl, World.ownsRow_nil _ _ _ _, by simp [go_sem], by simp, by go_grown⟩
  case round =>
    obtain ⟨w1, rfl⟩ : ∃ x : World, x = wr := ⟨_, rfl⟩
    obtain ⟨j, hj, rfl, HO, m1, zzw1, hBw1⟩ := hrel
    by_cases hlt : j < nf
    · obtain ⟨b1, f1, rfl, hbl1, hcl1⟩ := HEL.out j hlt
      have c0 : w1.cell? ⟨b1, f1 + j * 3, none⟩ = some (.int .i64 (F j).1) := (hBw1.cell (p := ⟨_, _, none⟩) hbl1).trans (hcl1 j hlt).1
      have c1 : w1.cell? ⟨b1, f1 + j * 3 + 1, none⟩ = some (.int .i64 (F j).2.1) := (hBw1.cell (p := ⟨_, _, none⟩) hbl1).trans (hcl1 j hlt).2.1
      have c2 : w1.cell? ⟨b1, f1 + j * 3 + 2, none⟩ = some (.int .i64 (F j).2.2) := (hBw1.cell (p := ⟨_, _, none⟩) hbl1).trans (hcl1 j hlt).2.2
      obtain ⟨ia, hia⟩ : ∃ x, (F j).1 = x := ⟨_, rfl⟩
      obtain ⟨ib, hib⟩ : ∃ x, (F j).2.1 = x := ⟨_, rfl⟩
      obtain ⟨ic, hic⟩ : ∃ x, (F j).2.2 = x := ⟨_, rfl⟩
      have HF : Hid (flatE (edgesL F j) ++ [.int .i64 ia, .int .i64 ib, .int .i64 ib, .int .i64 ic, .int .i64 ic, .int .i64 ia] = flatE (edgesL F (j + 1))) := by
        show _ = _
        rw [show edgesL F (j + 1) = edgesL F j ++ e3 (F j) from rfl, flatE_app]
        simp [flatE, e3, hia, hib, hic]
      rw [hia] at c0
      rw [hib] at c1
      rw [hic] at c2
      have hbr : b1 < w1.heap.size := by omega
      have k0 : (0 : Int) ≤ (j : Int) := by omega
      have k1 : (j : Int) < (nf : Int) := by omega
      clear hcl1 hia hib hic
      go_wp2_with (at_builtin; refine wpList_append_own _ rfl _ _ 65 rfl (w.heap.size + 1) 67 i0 _ 2 16 hu hi hz0 hz1 hz2 rfl (by decide) _ (3 * j) (flatE (edgesL F j)) rfl (owns_on HO.out ?c0) _ 3 3 [.int .i64 ia, .int .i64 ib, .int .i64 ib, .int .i64 ic, .int .i64 ic, .int .i64 ia] rfl rfl ?c2 ?c3 ?c4 ?c5 ?c6 ?_)
      case c0 => go_grown
      case c2 =>
        intro q u hq
        have hq6 : q < 6 := (List.getElem?_eq_some_iff.1 hq).1
        obtain rfl | rfl | rfl | rfl | rfl | rfl : q = 0 ∨ q = 1 ∨ q = 2 ∨ q = 3 ∨ q = 4 ∨ q = 5 := by omega
        all_goals (cases hq; simp [Addr.add, go_sem])
      case c3 => intro u hu'; simp only [List.mem_cons, List.not_mem_nil, or_false] at hu'; rcases hu' with rfl | rfl | rfl | rfl | rfl | rfl <;> rfl
      case c4 => unfold maxLen; omega
      case c5 => omega
      case c6 => simp <;> omega
      intro v' w2 hown hgrow _
      have HO2 : Hid (w2.ownsRow (w.heap.size + 1) 67 2 v' (3 * (j + 1)) (flatE (edgesL F (j + 1)))) := by
        show World.ownsRow _ _ _ _ _ _ _
        rw [← HF.out]
        exact hown
      have hB12 : Below (w.heap.size + 1) w1 w2 := Below.grown (by go_grown) hgrow (by simp <;> omega) (fun k hk => by
        rcases Nat.lt_or_ge k (w.heap.size + 1) with h' | h'
        · exact absurd hk.symm (owns_low HO.out h')
        · exact h')
      have hBw2 : Below w.heap.size w w2 := hBw1.trans (hB12.mono (by omega))
      have m1w2 := (hB12.cell (p := ⟨w.heap.size, 1, none⟩) (by show w.heap.size < _; omega)).trans m1
      have hsz := hB12.size
      have zzw2 : w.heap.size < w2.heap.size := by omega
      have HB2 := Lib.hid hBw2
      clear hown hgrow hB12 hBw2 hsz
      go_wp2
      go_roundw
      case rel => exact ⟨j + 1, by omega, by go_num, HO2, m1w2, zzw2, HB2.out⟩
      case measure => simp [intOf]; omega
    · obtain rfl : j = nf := by omega
      go_wp2
      go_returns
      exact ⟨_, rfl, owns_base HO.out (by omega), hBw1⟩
end Go.Proofs.Ytpjdmjmgkdgfnaa
