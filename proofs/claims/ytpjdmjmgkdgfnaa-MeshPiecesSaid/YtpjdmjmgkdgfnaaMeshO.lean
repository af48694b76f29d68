/-
  Owned rows of three ints; slices.Clone at faces, by walks. Conditions: none. By an AI agent.
-/
import Derived.Test.YtpjdmjmgkdgfnaaMeshM
import Derived.Test.YtpjdmjmgkdgfnaaRelmA
import Derived.Lib.SliceRun
namespace Go.Proofs.Ytpjdmjmgkdgfnaa
open Go Go.RowKit
set_option linter.unusedVariables false
set_option linter.unusedSimpArgs false
set_option maxRecDepth 100000

def flV (F : Nat → V) : Nat → List Value
  | 0 => []
  | n + 1 => flV F n ++ [.int .i64 (F n).1, .int .i64 (F n).2.1, .int .i64 (F n).2.2]
theorem flV_len (F : Nat → V) : ∀ n, (flV F n).length = n * 3
  | 0 => rfl
  | n + 1 => by rw [flV, List.length_append, flV_len F n]; simp; omega
theorem flV_at (F : Nat → V) : ∀ (n i j : Nat), i < n → j < 3 → (flV F n)[i * 3 + j]? = some (cv3 (F i) j)
  | 0, i, j, hi, _ => by omega
  | n + 1, i, j, hi, hj => by
    rw [flV]
    by_cases h : i < n
    · rw [List.getElem?_append_left (by rw [flV_len]; omega)]
      exact flV_at F n i j h hj
    · obtain rfl : i = n := by omega
      rw [List.getElem?_append_right (by rw [flV_len]; omega), flV_len, show i * 3 + j - i * 3 = j by omega]
      match j, hj with
      | 0, _ => rfl
      | 1, _ => rfl
      | 2, _ => rfl
theorem flV_one (F : Nat → V) : ∀ n, ∀ u ∈ flV F n, u.oneCell' = true
  | 0, u, h => absurd h (by simp [flV])
  | n + 1, u, h => by
    rw [flV] at h
    rcases List.mem_append.1 h with h | h
    · exact flV_one F n u h
    · simp only [List.mem_cons, List.not_mem_nil, or_false] at h
      rcases h with rfl | rfl | rfl <;> rfl
theorem flV_congr {F G : Nat → V} : ∀ {n : Nat}, (∀ i, i < n → F i = G i) → flV F n = flV G n
  | 0, _ => rfl
  | n + 1, h => by rw [flV, flV, flV_congr (fun i hi => h i (by omega)), h n (by omega)]
theorem flV_app (F G : Nat → V) (n : Nat) : ∀ m, flV F n ++ flV G m = flV (glueF F G n) (n + m)
  | 0 => by
    rw [flV, List.append_nil]
    exact flV_congr (fun i hi => by unfold glueF; rw [if_pos (show i < n by omega)])
  | m + 1 => by
    rw [flV, ← List.append_assoc, flV_app F G n m, show n + (m + 1) = (n + m) + 1 by omega, flV]
    unfold glueF
    rw [if_neg (show ¬ n + m < n by omega), show n + m - n = m by omega]
theorem owns_R {w : World} {B : Nat} {t : TypeId} {v : Value} {n : Nat} {F : Nat → V} (h : w.ownsRow B t 3 v n (flV F n)) : RowAt w v n F := owns_slice h _ (by decide) (fun i j hi hj => flV_at F n i j hi hj)
theorem RowAt.src {w : World} {v : Value} {n : Nat} {F : Nat → V} (h : RowAt w v n F) : ∃ (oa : Option Addr) (cap : Nat), v = .slice oa n cap ∧ (oa = none → n = 0) ∧ ∀ ad, oa = some ad → ∀ j u, (flV F n)[j]? = some u → w.cell? (ad.add j) = some u := by
  obtain ⟨oa, cap, rfl, -, -, h4⟩ := h
  refine ⟨oa, cap, rfl, fun h => ?_, fun ad had j u hj => ?_⟩
  · rcases Nat.eq_zero_or_pos n with h0 | h0
    · exact h0
    · obtain ⟨b, off, e, -⟩ := h4 h0
      rw [h] at e
      cases e
  · have hlt : j < n * 3 := by rw [← flV_len F n]; exact (List.getElem?_eq_some_iff.1 hj).1
    obtain ⟨b, off, e, -, hc⟩ := h4 (by omega)
    rw [had] at e
    cases e
    have h1 := flV_at F n (j / 3) (j % 3) (by omega) (Nat.mod_lt _ (by decide))
    rw [show j / 3 * 3 + j % 3 = j by omega, hj] at h1
    have h2 := hc (j / 3) (j % 3) (by omega) (Nat.mod_lt _ (by decide))
    rw [show j / 3 * 3 + j % 3 = j by omega] at h2
    rw [show (⟨b, off, none⟩ : Addr).add j = ⟨b, off + j, none⟩ by unfold Addr.add; split <;> simp_all, h2]
    exact h1.symm
theorem RowAt.congr {w : World} {v : Value} {n : Nat} {F G : Nat → V} (h : RowAt w v n F) (hg : ∀ i, i < n → F i = G i) : RowAt w v n G := by
  obtain ⟨oa, cap, h1, h2, h3, h4⟩ := h
  refine ⟨oa, cap, h1, h2, h3, fun h0 => ?_⟩
  obtain ⟨b, off, e, hlt, hc⟩ := h4 h0
  exact ⟨b, off, e, hlt, fun i j hi hj => by rw [hc i j hi hj]; show some (cv3 (F i) j) = some (cv3 (G i) j); rw [hg i hi]⟩
theorem infoR_parts {i? : Option TypeInfo} {z : Value} {s b : Nat} (h : i?.map (fun i => (i.zero, i.size, i.bytes)) = some (some z, s, b)) : ∃ i, i? = some i ∧ i.zero = some z ∧ i.size = s ∧ i.bytes = b := by
  cases i? with
  | none => cases h
  | some i => simp only [Option.map_some, Option.some.injEq, Prod.mk.injEq] at h; exact ⟨i, rfl, h.1, h.2.1, h.2.2⟩
theorem info_i3 : (Try.prog.info? 56).map (fun i => (i.zero, i.size, i.bytes)) = some (some (.agg #[.int .i64 0, .int .i64 0, .int .i64 0]), 3, 24) := by kernel_rfl
theorem info_vec : (Try.prog.info? 40).map (fun i => (i.zero, i.size, i.bytes)) = some (some (.agg #[.int .i64 0, .int .i64 0, .int .i64 0]), 3, 24) := by kernel_rfl
def Stay.built (n : Nat) (xs : Array Value) (t : TypeId) : Stay := ⟨(Prp.built n xs t).R, (Prp.built n xs t).grow⟩
set_option maxHeartbeats 2000000 in
theorem cloneF_any (v : Value) (n : Nat) (F : Nat → V) (w : World) (h : RowAt w v n F) (hn : n ≤ 1000000) :
    Calls Try.prog 46 #[v] w fun e w' => ∃ v', e = .returned v' ∧ w'.ownsRow w.heap.size 56 3 v' n (flV F n) ∧ Below w.heap.size w w' := by
  have hu : Try.prog.underlying 23 = some (.slice 56) := Try.underlying23
  have q : ∀ (w : World) (a : Option Addr) (n c n' c' : Nat), (binOp .eql 23 (.slice a n c) (.slice none n' c')).run Try.prog w = .ok (.bool a.isNone) w := fun w a n c n' c' => Lib.run_eql_slice_nil w _ _ a n c n' c' hu
  obtain ⟨i0, hi, hz0, hz1, hz2⟩ := infoR_parts info_i3
  obtain ⟨oa, c, rfl, h0, hc⟩ := h.src
  clear h
  cases oa with
  | none =>
    have hn0 := h0 rfl
    subst hn0
    clear hc h0
    go_enter Try.func46, Try.ntmps46
    go_wp2
    go_returns
    exact ⟨_, rfl, World.ownsRow_nil _ _ _ _, Below.refl _ _⟩
  | some ad =>
    have HC : Hid (∀ j u, (flV F n)[j]? = some u → w.cell? (ad.add j) = some u) := hc ad rfl
    have HLT : Hid (∀ j u, (flV F n)[j]? = some u → (ad.add j).block < w.heap.size) := fun j u hj => by
      have := HC.out j u hj
      rcases Nat.lt_or_ge (ad.add j).block w.heap.size with h' | h'
      · exact h'
      · simp [World.cell?, Array.getElem?_eq_none h'] at this
    clear hc h0
    go_enter Try.func46, Try.ntmps46
    go_wp2_with (at_builtin; refine wpList_append_own _ rfl _ _ 23 rfl w.heap.size 56 i0 _ 3 24 hu hi hz0 hz1 hz2 rfl (by decide) _ _ _ rfl (World.ownsRow_made w #[] 0 (Nat.le_refl _) (Nat.zero_le _) (by simp)) ad n c (flV F n) rfl ?c1 ?c2 ?c3 ?c4 ?c5 ?c6 ?_)
    case c1 => exact flV_len F n
    case c2 =>
      intro j u hj
      exact (World.cell?_alloc_lt _ _ _ (HLT.out j u hj)).trans (HC.out j u hj)
    case c3 => exact flV_one F n
    case c4 => unfold maxLen; omega
    case c5 => omega
    case c6 => simp
    intro v' w1 hown hgrow _
    have hB : Below w.heap.size w w1 := ((Below.refl _ w).alloc (Nat.le_refl _) _).grown hgrow (by simp) (by intro k hk; simp [Value.ownBlock] at hk; omega)
    have HB := Lib.hid hB
    have HO : Hid (w1.ownsRow w.heap.size 56 3 v' n (flV F n)) := by
      show World.ownsRow _ _ _ _ _ _ _
      simpa using hown
    clear hown hgrow hB
    go_wp2
    go_returns
    exact ⟨_, rfl, HO.out, HB.out⟩
end Go.Proofs.Ytpjdmjmgkdgfnaa
