/-
  A region that draws its order, walked operation by operation under an invariant that may speak of which operations have run, of what they have yielded and of the world: each operation that can be next keeps it. Conditions: none. By an AI agent.
-/
import Derived.Test.YtcfohnhieajhnaaDoorRel
namespace Go.Proofs.YtcfohnhieajhnaaDoor
open Go Go.RowKit

section
variable {P : Program} {md : Region.Mode}

def setB (d : Nat → Bool) (i : Nat) : Nat → Bool := fun j => if j = i then true else d j
/-- what an operation waits for has run -/
def depsD (md : Region.Mode) (d : Nat → Bool) : List Edge → Prop
  | [] => True
  | e :: l => (Region.binds md e = true → d e.on = true) ∧ depsD md d l
theorem depsD_of {d : Nat → Bool} : ∀ (l : List Edge), (∀ e ∈ l, Region.binds md e = true → d e.on = true) → depsD md d l
  | [], _ => trivial
  | e :: l, h => ⟨h e (by simp), depsD_of l (fun e he => h e (by simp [he]))⟩

/-- each operation of the list keeps the invariant -/
def invAll (P : Program) (md : Region.Mode) (ops : Array Oper) (I : (Nat → Bool) → (Nat → Value) → World → Prop) (fr : (Nat → Value) → Act) : List Oper → Nat → Prop
  | [], _ => True
  | o :: l, k => (∀ (d : Nat → Bool) (u : Nat → Value) (w : World), d k = false → depsD md d o.after.toList → I d u w →
      if Region.wanted o (yielded ops (fr u).tmps) = true then relOp P o (fr u) w (fun v w' => I (setB d k) (upd u k v) w') else I (setB d k) (upd u k undef) w) ∧ invAll P md ops I fr l (k + 1)
theorem invAll_at {ops : Array Oper} {I : (Nat → Bool) → (Nat → Value) → World → Prop} {fr : (Nat → Value) → Act} : ∀ (l : List Oper) (k i : Nat) (o : Oper), invAll P md ops I fr l k → l[i]? = some o →
    ∀ (d : Nat → Bool) (u : Nat → Value) (w : World), d (k + i) = false → depsD md d o.after.toList → I d u w →
      if Region.wanted o (yielded ops (fr u).tmps) = true then relOp P o (fr u) w (fun v w' => I (setB d (k + i)) (upd u (k + i) v) w') else I (setB d (k + i)) (upd u (k + i) undef) w
  | [], _, _, _, _, h => by simp at h
  | o' :: l, k, 0, o, hr, h => by
    obtain rfl : o' = o := by simpa using h
    exact hr.1
  | o' :: l, k, i + 1, o, hr, h => by
    have := invAll_at l (k + 1) i o hr.2 (by simpa using h)
    rw [show k + 1 + i = k + (i + 1) by omega] at this
    exact this

theorem wpAny_inv {l : List Oper} {n : Nat} {a0 : Act} {I : (Nat → Bool) → (Nat → Value) → World → Prop} {Q : Exit → Act → World → Prop} (hB : relB md l n = true)
    (hall : invAll P md l.toArray I (fun u => fillL a0 (l.take n) u 0) (l.take n) 0)
    (hend : ∀ (d : Nat → Bool) (u : Nat → Value) (w : World), (∀ j, j < n → d j = true) → I d u w → wpList P l.toArray Q (l.drop n) (fillL a0 (l.take n) u 0) w) :
    ∀ (f : Nat) (listed : Array Bool) (u : Nat → Value) (w : World), unlisted n listed = f → HeadInv md l.toArray n listed → I (fun j => listed.getD j false) u w →
      wpAny P md l.toArray Q (f + (l.length - n)) listed (fillL a0 (l.take n) u 0) w := by
  simp only [relB, Bool.and_eq_true, Bool.or_eq_true, decide_eq_true_eq] at hB
  obtain ⟨⟨⟨hn, hback⟩, hseq⟩, hd⟩ := hB
  have hnl : n ≤ l.length := by omega
  intro f
  induction f with
  | zero =>
    intro listed u w hf inv hV
    have hdone : ∀ j, j < n → listed.getD j false = true := by
      intro j hj
      have h0 : (List.range n).countP (fun j => !listed.getD j false) = 0 := hf
      rw [List.countP_eq_zero] at h0
      simpa using h0 j (List.mem_range.2 hj)
    have hlist : listed = headsDone n l.length := by
      apply Array.ext
      · simp [headsDone, inv.size]; omega
      · intro i h1 h2
        have hsz : listed.size = l.length := by rw [inv.size]; simp
        have h3 : i < (List.replicate n true ++ List.replicate (l.length - n) false).length := by simpa [headsDone] using h2
        show listed[i] = (List.replicate n true ++ List.replicate (l.length - n) false)[i]'h3
        by_cases hi : i < n
        · rw [List.getElem_append_left (by simpa using hi), List.getElem_replicate]
          have := hdone i hi
          simpa [h1] using this
        · rw [List.getElem_append_right (by simpa using hi), List.getElem_replicate]
          have := inv.tail i (by omega) (by simp; omega)
          simpa [h1] using this
    rw [Nat.zero_add]
    have := wpAny_of_seq (P := P) (ops := l.toArray) (md := md) (Q' := Q) (l.drop n) n listed (fillL a0 (l.take n) u 0) w (fun j => by simp [List.getElem?_drop])
      (by rw [List.length_drop, hlist]; exact hseq) (hend _ u w hdone hV)
    rwa [List.length_drop] at this
  | succ f ih =>
    intro listed u w hf inv hV
    have hsz : listed.size = l.length := by rw [inv.size]; simp
    obtain ⟨i0, hi0, hun0⟩ : ∃ i, i < n ∧ listed.getD i false = false := by
      apply Classical.byContradiction
      intro hno
      have : unlisted n listed = 0 := by
        unfold unlisted
        rw [List.countP_eq_zero]
        intro j hj
        have : listed.getD j false = true := by
          cases h : listed.getD j false with
          | true => rfl
          | false => exact absurd ⟨j, List.mem_range.1 hj, h⟩ hno
        rw [this]
        decide
      omega
    rw [show f + 1 + (l.length - n) = (f + (l.length - n)) + 1 by omega]
    refine ⟨fun h => absurd h (some_ready hback (by simpa using hnl) i0 i0 rfl hi0 hun0 (by omega) (fun j hj => by omega)), fun i hi => ?_⟩
    obtain ⟨hiun, o, ho, hdeps⟩ := mem_ready.1 hi
    have hilt : i < l.length := by have := (Array.getElem?_eq_some_iff.1 ho).1; simpa using this
    have hin : i < n := by
      rcases hn with hn | ⟨⟨hn, hs⟩, hc⟩
      · omega
      · exact (Nat.lt_or_ge i n).resolve_right fun h => tail_waits hs hc (by simpa using hn) inv _ i0 rfl hi0 (getD_in (by omega) hun0) i h hi
    have hol : (l.take n)[i]? = some o := by
      rw [List.getElem?_take_of_lt hin]; simpa using ho
    have hdv : depsD md (fun j => listed.getD j false) o.after.toList := depsD_of _ fun e he hbd => hdeps e (by simpa using he) hbd
    have hstep := invAll_at _ 0 i o hall hol (fun j => listed.getD j false) u w (by rw [Nat.zero_add]; exact getD_both hiun) hdv hV
    simp only [Nat.zero_add] at hstep
    have hset : (fun j => (listed.setIfInBounds i true).getD j false) = setB (fun j => listed.getD j false) i := by
      funext j
      unfold setB
      split
      · rename_i e; subst e
        simp [show j < listed.size by omega]
      · rename_i e
        rw [getD_set_ne false (by omega)]
    have hgo : ∀ v w', I (setB (fun j => listed.getD j false) i) (upd u i v) w' → wpAny P md l.toArray Q (f + (l.length - n)) (listed.setIfInBounds i true) ((fillL a0 (l.take n) u 0).put o.dst v) w' := by
      intro v w' hv
      rw [fill_put (l.take n) a0 u 0 i o hd hol, Nat.zero_add]
      refine ih _ _ _ ?_ (inv.set hi hin) (by rw [hset]; exact hv)
      have := unlisted_set hin (by omega : i < listed.size) (getD_both hiun)
      omega
    unfold wpOp
    simp only [ho]
    split
    · rename_i hw
      rw [if_pos hw] at hstep
      exact .inl (relOp_wp hstep fun v w' h1 => hgo v w' h1)
    · rename_i hw
      rw [if_neg hw] at hstep
      exact hgo _ _ hstep

/-- **THE THEOREM** -/
theorem wp_region_inv {id : Nat} {Q : Exit → Act → World → Prop} {a : Act} {w : World} {l : List Oper} (n : Nat) (I : (Nat → Bool) → (Nat → Value) → World → Prop) (hm : P.follows .mixedOrders = true) (hB : relB .any l n = true)
    (h0 : ∀ u, I (fun _ => false) u { w with drawn := w.drawn + 1 })
    (hall : invAll P .any l.toArray I (fun u => fillL a (l.take n) u 0) (l.take n) 0)
    (hend : ∀ (d : Nat → Bool) (u : Nat → Value) (w' : World), (∀ j, j < n → d j = true) → I d u w' → wpList P l.toArray Q (l.drop n) (fillL a (l.take n) u 0) w') : (Code.region id l.toArray true).wp P Q a w := by
  refine wp_region_any hm ?_
  have inv0 : HeadInv .any l.toArray n (Array.replicate l.toArray.size false) :=
    ⟨by simp, fun j oj _ hl => (by rw [getD_replicate_false] at hl; cases hl), fun t _ ht => getD_in (by simpa using ht) (getD_replicate_false _ _)⟩
  have hn : n ≤ l.length := by
    simp only [relB, Bool.and_eq_true, Bool.or_eq_true, decide_eq_true_eq] at hB
    omega
  have h1 : unlisted n (Array.replicate l.toArray.size false) = n := by
    unfold unlisted
    rw [List.countP_eq_length.2]
    · simp
    · intro j _
      rw [getD_replicate_false]
      rfl
  have hd0 : (fun j => (Array.replicate l.toArray.size false).getD j false) = fun _ => false := by
    funext j; exact getD_replicate_false _ _
  have := wpAny_inv hB hall hend n _ (fun j => curU a (l.take n) j) { w with drawn := w.drawn + 1 } h1 inv0 (by rw [hd0]; exact h0 _)
  rw [fill_cur a (l.take n) 0 _ (fun j => by rw [Nat.zero_add]), show n + (l.length - n) = l.toArray.size by simp; omega] at this
  exact this
end
end Go.Proofs.YtcfohnhieajhnaaDoor
