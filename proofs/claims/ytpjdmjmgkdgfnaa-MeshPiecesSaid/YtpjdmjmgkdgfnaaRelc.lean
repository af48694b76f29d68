/-
  A region that draws its order, walked once in the order of the text, in which one operation (q) writes into a block that another one (p) has made. Conditions: none. By an AI agent.
-/
import Derived.Test.YtpjdmjmgkdgfnaaRelw
namespace Go.Proofs.Ytpjdmjmgkdgfnaa
open Go Go.RowKit
set_option linter.unusedVariables false
section
variable {P : Program} {md : Region.Mode}
def depsC (md : Region.Mode) (V : Nat → Stay) (p q k : Nat) (u : Nat → Value) (w : World) : List Edge → Prop
  | [] => True
  | e :: l => (Region.binds md e = true → (e.on ≠ p ∨ k = q) → (V e.on).p (u e.on) w) ∧ depsC md V p q k u w l
theorem depsC_of {V : Nat → Stay} {p q k : Nat} {u : Nat → Value} {w : World} : ∀ (l : List Edge), (∀ e ∈ l, Region.binds md e = true → (e.on ≠ p ∨ k = q) → (V e.on).p (u e.on) w) → depsC md V p q k u w l
  | [], _ => trivial
  | e :: l, h => ⟨h e (by simp), depsC_of l (fun e he => h e (by simp [he]))⟩
def StepC (w0 : World) (q k : Nat) (w w' : World) : Prop := if k = q then Below w0.heap.size w w' else Below w.heap.size w w'
def relAllC (P : Program) (md : Region.Mode) (ops : Array Oper) (w0 : World) (V : Nat → Stay) (p q : Nat) (fr : (Nat → Value) → Act) : List Oper → Nat → Prop
  | [], _ => True
  | o :: l, k => ((k ≠ p ∧ k ≠ q ∧ waitsB md o q = false → ∀ v w w', (V k).p v w → (V k).p v w') ∧ ∀ (u : Nat → Value) (w : World), Below w0.heap.size w0 w → depsC md V p q k u w o.after.toList →
      if Region.wanted o (yielded ops (fr u).tmps) = true then relOp P o (fr u) w (fun v w' => StepC w0 q k w w' ∧ (V k).p v w') else (V k).p undef w) ∧ relAllC P md ops w0 V p q fr l (k + 1)
theorem relAllC_at {ops : Array Oper} {w0 : World} {V : Nat → Stay} {p q : Nat} {fr : (Nat → Value) → Act} : ∀ (l : List Oper) (k i : Nat) (o : Oper), relAllC P md ops w0 V p q fr l k → l[i]? = some o →
    (k + i ≠ p ∧ k + i ≠ q ∧ waitsB md o q = false → ∀ v w w', (V (k + i)).p v w → (V (k + i)).p v w') ∧ ∀ (u : Nat → Value) (w : World), Below w0.heap.size w0 w → depsC md V p q (k + i) u w o.after.toList →
      if Region.wanted o (yielded ops (fr u).tmps) = true then relOp P o (fr u) w (fun v w' => StepC w0 q (k + i) w w' ∧ (V (k + i)).p v w') else (V (k + i)).p undef w
  | [], _, _, _, _, h => by simp at h
  | o' :: l, k, 0, o, hr, h => by
    obtain rfl : o' = o := by simpa using h
    exact hr.1
  | o' :: l, k, i + 1, o, hr, h => by
    have := relAllC_at l (k + 1) i o hr.2 (by simpa using h)
    rwa [show k + 1 + i = k + (i + 1) by omega] at this
theorem wpAny_relc {l : List Oper} {n : Nat} {a0 : Act} {w0 : World} {V : Nat → Stay} {p q : Nat} {Q : Exit → Act → World → Prop} (hB : relB md l n = true) (hq : q < n)
    (hall : relAllC P md l.toArray w0 V p q (fun u => fillL a0 (l.take n) u 0) (l.take n) 0)
    (hend : ∀ (u : Nat → Value) (w : World), Below w0.heap.size w0 w → (∀ j, j < n → j ≠ p → (V j).p (u j) w) → wpList P l.toArray Q (l.drop n) (fillL a0 (l.take n) u 0) w) :
    ∀ (f : Nat) (listed : Array Bool) (u : Nat → Value) (w : World), unlisted n listed = f → HeadInv md l.toArray n listed → Below w0.heap.size w0 w → (∀ j, j < n → listed.getD j false = true → (j = p → listed.getD q false = false) → (V j).p (u j) w) →
      wpAny P md l.toArray Q (f + (l.length - n)) listed (fillL a0 (l.take n) u 0) w := by
  simp only [relB, Bool.and_eq_true, Bool.or_eq_true, decide_eq_true_eq] at hB
  obtain ⟨⟨⟨hn, hback⟩, hseq⟩, hd⟩ := hB
  have hnl : n ≤ l.length := by omega
  intro f
  induction f with
  | zero =>
    intro listed u w hf inv hb hV
    have hdone : ∀ j, j < n → listed.getD j false = true := by
      intro j hj
      have h0 : (List.range n).countP (fun j => !listed.getD j false) = 0 := hf
      rw [List.countP_eq_zero] at h0
      simpa using h0 j (List.mem_range.2 hj)
    have hlist : listed = headsDone n l.length := by
      apply Array.ext
      · simp [headsDone, inv.size]; omega
      · intro i h1 h2
        have hsz : listed.size = l.length := by rw [inv.size]; simp
        have h3 : i < (List.replicate n true ++ List.replicate (l.length - n) false).length := by simpa [headsDone] using h2
        show listed[i] = (List.replicate n true ++ List.replicate (l.length - n) false)[i]'h3
        by_cases hi : i < n
        · rw [List.getElem_append_left (by simpa using hi), List.getElem_replicate]
          have := hdone i hi
          simpa [h1] using this
        · rw [List.getElem_append_right (by simpa using hi), List.getElem_replicate]
          have := inv.tail i (by omega) (by simp; omega)
          simpa [h1] using this
    rw [Nat.zero_add]
    have := wpAny_of_seq (P := P) (ops := l.toArray) (md := md) (Q' := Q) (l.drop n) n listed (fillL a0 (l.take n) u 0) w (fun j => by simp [List.getElem?_drop])
      (by rw [List.length_drop, hlist]; exact hseq) (hend u w hb (fun j hj hjp => hV j hj (hdone j hj) (fun e => absurd e hjp)))
    rwa [List.length_drop] at this
  | succ f ih =>
    intro listed u w hf inv hb hV
    have hsz : listed.size = l.length := by rw [inv.size]; simp
    obtain ⟨i0, hi0, hun0⟩ : ∃ i, i < n ∧ listed.getD i false = false := by
      apply Classical.byContradiction
      intro hno
      have : unlisted n listed = 0 := by
        unfold unlisted
        rw [List.countP_eq_zero]
        intro j hj
        have : listed.getD j false = true := by
          cases h : listed.getD j false with
          | true => rfl
          | false => exact absurd ⟨j, List.mem_range.1 hj, h⟩ hno
        rw [this]
        decide
      omega
    rw [show f + 1 + (l.length - n) = (f + (l.length - n)) + 1 by omega]
    refine ⟨fun h => absurd h (some_ready hback (by simpa using hnl) i0 i0 rfl hi0 hun0 (by omega) (fun j hj => by omega)), fun i hi => ?_⟩
    obtain ⟨hiun, o, ho, hdeps⟩ := mem_ready.1 hi
    have hilt : i < l.length := by have := (Array.getElem?_eq_some_iff.1 ho).1; simpa using this
    have hin : i < n := by
      rcases hn with hn | ⟨⟨hn, hs⟩, hc⟩
      · omega
      · exact (Nat.lt_or_ge i n).resolve_right fun h => tail_waits hs hc (by simpa using hn) inv _ i0 rfl hi0 (getD_in (by omega) hun0) i h hi
    have hiun' : listed.getD i false = false := getD_both hiun
    have hol : (l.take n)[i]? = some o := by
      rw [List.getElem?_take_of_lt hin]; simpa using ho
    have hdv : depsC md V p q i u w o.after.toList := depsC_of _ fun e he hbd hpq => by
      have hbk := List.all_eq_true.1 hback i (List.mem_range.2 hin)
      simp only [ho] at hbk
      have h2 := List.all_eq_true.1 hbk e he
      simp only [hbd, Bool.not_true, Bool.false_or, decide_eq_true_eq] at h2
      refine hV e.on (by omega) (hdeps e (by simpa using he) hbd) (fun hep => ?_)
      rcases hpq with h | h
      · exact absurd hep h
      · rw [← h]; exact hiun'
    obtain ⟨hconst0, hstep0⟩ := relAllC_at _ 0 i o hall hol
    have hstep := hstep0 u w hb (by rw [Nat.zero_add]; exact hdv)
    simp only [Nat.zero_add] at hstep
    have hgo : ∀ v w', StepC w0 q i w w' → (V i).p v w' → wpAny P md l.toArray Q (f + (l.length - n)) (listed.setIfInBounds i true) ((fillL a0 (l.take n) u 0).put o.dst v) w' := by
      intro v w' hb' hv
      have hbw : Below w0.heap.size w0 w' := by
        unfold StepC at hb'
        split at hb'
        · exact hb.trans hb'
        · exact hb.trans (hb'.mono hb.size)
      rw [fill_put (l.take n) a0 u 0 i o hd hol]
      refine ih _ _ _ ?_ (inv.set hi hin) hbw ?_
      · have := unlisted_set hin (by omega : i < listed.size) hiun'
        omega
      · intro j hj hl hjq
        unfold upd
        by_cases hji : j = 0 + i
        · rw [if_pos hji]
          have : j = i := by omega
          subst this
          exact hv
        · rw [if_neg hji]
          rw [getD_set_ne false (by omega)] at hl
          unfold StepC at hb'
          by_cases hiq : i = q
          · subst hiq
            have hjp : j ≠ p := by
              intro e
              have h9 := hjq e
              rw [Array.getD_eq_getD_getElem?, Array.getElem?_setIfInBounds_self_of_lt (by omega)] at h9
              cases h9
            obtain ⟨oj, hoj⟩ : ∃ oj, (l.take n)[j]? = some oj := ⟨_, List.getElem?_eq_getElem (by rw [List.length_take]; omega)⟩
            have hc := (relAllC_at _ 0 j oj hall hoj).1
            rw [Nat.zero_add] at hc
            have hwt : waitsB md oj i = false := by
              cases hwb : waitsB md oj i with
              | false => rfl
              | true =>
                unfold waitsB at hwb
                obtain ⟨ed, he1, he2⟩ := List.any_eq_true.1 hwb
                simp only [Bool.and_eq_true, decide_eq_true_eq] at he2
                have hoj' : l.toArray[j]? = some oj := by
                  rw [List.getElem?_take_of_lt hj] at hoj
                  simpa using hoj
                have := inv.closed j oj hoj' hl ed (by simpa using he1) he2.2
                rw [he2.1, hiun'] at this
                cases this
            exact hc ⟨hjp, by omega, hwt⟩ _ _ _ (hV j hj hl (fun e => absurd e hjp))
          · rw [if_neg hiq] at hb'
            refine (V j).grow _ _ _ hb' (hV j hj hl (fun e => ?_))
            have h9 := hjq e
            rwa [getD_set_ne false (by omega)] at h9
    have hst0 : StepC w0 q i w w := by unfold StepC; split <;> exact Below.refl _ _
    unfold wpOp
    simp only [ho]
    split
    · rename_i hw
      rw [if_pos hw] at hstep
      exact .inl (relOp_wp hstep fun v w' ⟨h1, h2⟩ => hgo v w' h1 h2)
    · rename_i hw
      rw [if_neg hw] at hstep
      exact hgo _ _ hst0 hstep
def relWalkC (P : Program) (md : Region.Mode) (ops : Array Oper) (w0 : World) (p q : Nat) (fr : (Nat → Value) → Act) (fin : (Nat → Stay) → Prop) : List Oper → Nat → (Nat → Stay) → Prop
  | [], _, V => fin V
  | o :: l, k, V => ∃ s : Stay, ((k ≠ p ∧ k ≠ q ∧ waitsB md o q = false → ∀ v w w', s.p v w → s.p v w') ∧ ∀ (u : Nat → Value) (w : World), Below w0.heap.size w0 w → depsC md V p q k u w o.after.toList →
      if Region.wanted o (yielded ops (fr u).tmps) = true then relOp P o (fr u) w (fun v w' => StepC w0 q k w w' ∧ s.p v w') else s.p undef w) ∧ relWalkC P md ops w0 p q fr fin l (k + 1) (updS V k s)
theorem depsC_congr {V V' : Nat → Stay} {p q k' : Nat} {u : Nat → Value} {w : World} {k : Nat} : ∀ l : List Edge, (l.all fun e => !Region.binds md e || decide (e.on < k)) = true → (∀ j, j < k → V j = V' j) → depsC md V p q k' u w l → depsC md V' p q k' u w l
  | [], _, _, _ => trivial
  | e :: l, hb, he, h => by
    simp only [List.all_cons, Bool.and_eq_true] at hb
    refine ⟨fun hbd hpq => ?_, depsC_congr l hb.2 he h.2⟩
    have h1 := h.1 hbd hpq
    have h2 : e.on < k := by simpa [hbd] using hb.1
    rw [← he _ h2]
    exact h1
theorem relAllC_of {ops : Array Oper} {w0 : World} {p q : Nat} {fr : (Nat → Value) → Act} {fin : (Nat → Stay) → Prop} : ∀ (l : List Oper) (k : Nat) (V : Nat → Stay), backL md l k = true → relWalkC P md ops w0 p q fr fin l k V →
    ∃ V' : Nat → Stay, (∀ j, j < k → V' j = V j) ∧ relAllC P md ops w0 V' p q fr l k ∧ fin V'
  | [], _, V, _, h => ⟨V, fun _ _ => rfl, trivial, h⟩
  | o :: l, k, V, hb, h => by
    obtain ⟨s, h1, h2⟩ := h
    simp only [backL, Bool.and_eq_true] at hb
    obtain ⟨V', he, ha, hf⟩ := relAllC_of l (k + 1) _ hb.2 h2
    have hE : ∀ j, j < k → V' j = V j := fun j hj => by rw [he j (by omega)]; unfold updS; rw [if_neg (by omega)]
    have hp : V' k = s := by rw [he k (by omega)]; unfold updS; rw [if_pos rfl]
    refine ⟨V', hE, ⟨⟨?_, fun u w hbl hd => ?_⟩, ha⟩, hf⟩
    · rw [hp]; exact h1.1
    · have h3 := h1.2 u w hbl (depsC_congr _ hb.1 hE hd)
      rw [hp]
      exact h3
/-- **THE THEOREM** -/
theorem wp_region_relc {id : Nat} {Q : Exit → Act → World → Prop} {a : Act} {w : World} {l : List Oper} (n p q : Nat) (hm : P.follows .mixedOrders = true) (hB : relB .any l n = true) (hL : backL .any (l.take n) 0 = true) (hq : q < n)
    (h : relWalkC P .any l.toArray w p q (fun u => fillL a (l.take n) u 0) (fun V => ∀ (u : Nat → Value) (w' : World), Below w.heap.size w w' → endS (updS V p Stay.any) u w' n → wpList P l.toArray Q (l.drop n) (fillL a (l.take n) u 0) w') (l.take n) 0 (fun _ => Stay.any)) :
    (Code.region id l.toArray true).wp P Q a w := by
  obtain ⟨V, _, hall, hend⟩ := relAllC_of _ _ _ hL h
  refine wp_region_any hm ?_
  have inv0 : HeadInv .any l.toArray n (Array.replicate l.toArray.size false) :=
    ⟨by simp, fun j oj _ hl => (by rw [getD_replicate_false] at hl; cases hl), fun t _ ht => getD_in (by simpa using ht) (getD_replicate_false _ _)⟩
  have hn : n ≤ l.length := by
    simp only [relB, Bool.and_eq_true, Bool.or_eq_true, decide_eq_true_eq] at hB
    omega
  have h0 : unlisted n (Array.replicate l.toArray.size false) = n := by
    unfold unlisted
    rw [List.countP_eq_length.2]
    · simp
    · intro j _
      rw [getD_replicate_false]
      rfl
  have := wpAny_relc hB hq hall (fun u w' hb hv => hend u w' hb (endS_of n (fun j hj => by
      unfold updS
      by_cases e : j = p
      · rw [if_pos e]; trivial
      · rw [if_neg e]; exact hv j hj e))) n _ (fun j => curU a (l.take n) j) { w with drawn := w.drawn + 1 } h0 inv0 ⟨rfl, rfl, rfl, Nat.le_refl _, fun _ _ => rfl⟩ (fun j _ hl => by rw [getD_replicate_false] at hl; cases hl)
  rw [fill_cur a (l.take n) 0 _ (fun j => by rw [Nat.zero_add]), show n + (l.length - n) = l.toArray.size by simp; omega] at this
  exact this
section
variable {ops : Array Oper} {w0 : World} {p q : Nat} {fr : (Nat → Value) → Act} {fin : (Nat → Stay) → Prop} {o : Oper} {l : List Oper} {k : Nat} {V : Nat → Stay}
/-- one known value -/
theorem relc_is {x : Value} (hk : k ≠ q)
    (h : ∀ (u : Nat → Value) (w : World), Below w0.heap.size w0 w → depsC md V p q k u w o.after.toList → if Region.wanted o (yielded ops (fr u).tmps) = true then relOp P o (fr u) w (fun v w' => Below w.heap.size w w' ∧ v = x) else undef = x)
    (hl : relWalkC P md ops w0 p q fr fin l (k + 1) (updS V k (Stay.is x))) : relWalkC P md ops w0 p q fr fin (o :: l) k V := by
  refine ⟨Stay.is x, ⟨fun _ _ _ _ h => h, fun u w hb hd => ?_⟩, hl⟩
  have h1 := h u w hb hd
  split
  · rename_i hw
    rw [if_pos hw] at h1
    exact relOp_mono h1 (fun v w' h => ⟨by unfold StepC; rw [if_neg hk]; exact h.1, h.2⟩)
  · rename_i hw
    rw [if_neg hw] at h1
    exact h1
/-- what is made and then written into -/
theorem relc_made (s : Stay) (hk : p ≠ q)
    (h : ∀ (u : Nat → Value) (w : World), Below w0.heap.size w0 w → depsC md V p q p u w o.after.toList → Region.wanted o (yielded ops (fr u).tmps) = true ∧ relOp P o (fr u) w (fun v w' => Below w.heap.size w w' ∧ s.p v w'))
    (hl : relWalkC P md ops w0 p q fr fin l (p + 1) (updS V p s)) : relWalkC P md ops w0 p q fr fin (o :: l) p V := by
  refine ⟨s, ⟨fun h => absurd rfl h.1, fun u w hb hd => ?_⟩, hl⟩
  have h1 := h u w hb hd
  rw [if_pos h1.1]
  exact relOp_mono h1.2 (fun v w' h => ⟨by unfold StepC; rw [if_neg hk]; exact h.1, h.2⟩)
/-- what writes into it -/
theorem relc_write (s : Stay)
    (h : ∀ (u : Nat → Value) (w : World), Below w0.heap.size w0 w → depsC md V p q q u w o.after.toList → Region.wanted o (yielded ops (fr u).tmps) = true ∧ relOp P o (fr u) w (fun v w' => Below w0.heap.size w w' ∧ s.p v w'))
    (hl : relWalkC P md ops w0 p q fr fin l (q + 1) (updS V q s)) : relWalkC P md ops w0 p q fr fin (o :: l) q V := by
  refine ⟨s, ⟨fun h => absurd rfl h.2.1, fun u w hb hd => ?_⟩, hl⟩
  have h1 := h u w hb hd
  rw [if_pos h1.1]
  exact relOp_mono h1.2 (fun v w' h => ⟨by unfold StepC; rw [if_pos rfl]; exact h.1, h.2⟩)
/-- what is done behind the writing -/
theorem relc_after (s : Stay) (hk : k ≠ q) (hw : waitsB md o q = true)
    (h : ∀ (u : Nat → Value) (w : World), Below w0.heap.size w0 w → depsC md V p q k u w o.after.toList → Region.wanted o (yielded ops (fr u).tmps) = true ∧ relOp P o (fr u) w (fun v w' => Below w.heap.size w w' ∧ s.p v w'))
    (hl : relWalkC P md ops w0 p q fr fin l (k + 1) (updS V k s)) : relWalkC P md ops w0 p q fr fin (o :: l) k V := by
  refine ⟨s, ⟨fun h => by rw [hw] at h; exact absurd h.2.2 (by decide), fun u w hb hd => ?_⟩, hl⟩
  have h1 := h u w hb hd
  rw [if_pos h1.1]
  exact relOp_mono h1.2 (fun v w' h => ⟨by unfold StepC; rw [if_neg hk]; exact h.1, h.2⟩)
end
end
end Go.Proofs.Ytpjdmjmgkdgfnaa
