/-
  A region that draws its order, walked once in the order of the text, in which rows are made, handed on and written into by the one operation that takes each of them. Conditions: none. By an AI agent.
-/
import Derived.Test.YtpjdmjmgkdgfnaaRelw
import Derived.Test.YtpjdmjmgkdgfnaaAppN
namespace Go.Proofs.Ytpjdmjmgkdgfnaa
open Go Go.RowKit
set_option linter.unusedVariables false
/-- what a value is, and the blocks that it alone holds -/
structure OwnS where
  p : Value → World → Prop
  own : Value → Nat → Prop
  lt : ∀ v w b, p v w → own v b → b < w.heap.size
  stab : ∀ v w w', p v w → w.heap.size ≤ w'.heap.size → (∀ b, own v b → w'.heap[b]? = w.heap[b]?) → p v w'
def OwnS.is (x : Value) : OwnS := ⟨fun v _ => v = x, fun _ _ => False, fun _ _ _ _ h => h.elim, fun _ _ _ h _ _ => h⟩
def OwnS.any : OwnS := ⟨fun _ _ => True, fun _ _ => False, fun _ _ _ _ h => h.elim, fun _ _ _ _ _ _ => trivial⟩
/-- a row of its own -/
def OwnS.row (B : Nat) (t : TypeId) (k n : Nat) (xs : List Value) : OwnS := ⟨fun v w => w.ownsRow B t k v n xs, fun v b => v.ownBlock = some b, fun v w b h hb => (h.lt b hb).2, fun v w w' h _ hb => by
  refine ⟨h.1, ?_⟩
  rcases h.2 with h0 | ⟨g, cap, cur, rfl, h1, h2, h3⟩
  · exact .inl h0
  · exact .inr ⟨g, cap, cur, rfl, h1, by rw [hb g rfl]; exact h2, h3⟩⟩
/-- a slice that was built -/
def OwnS.built (n : Nat) (xs : Array Value) (t : TypeId) : OwnS := ⟨fun v w => ∃ g : Nat, v = .slice (some ⟨g, 0, none⟩) n n ∧ w.heap[g]? = some (.cells xs t), fun v b => v.ownBlock = some b, fun v w b ⟨g, h1, h2⟩ hb => by
  subst h1
  simp only [Value.ownBlock, Option.some.injEq] at hb
  subst hb
  exact (Array.getElem?_eq_some_iff.1 h2).1, fun v w w' ⟨g, h1, h2⟩ _ hb => ⟨g, h1, by rw [hb g (by rw [h1]; rfl)]; exact h2⟩⟩
section
variable {P : Program} {md : Region.Mode}
/-- (c, k): operation k takes c's value and writes into it -/
def eats (L : List (Nat × Nat)) (c k : Nat) : Bool := L.any fun q => decide (q.1 = c) && decide (q.2 = k)
def eaten (L : List (Nat × Nat)) (c : Nat) : Bool := L.any fun q => decide (q.1 = c)
def eatsB (md : Region.Mode) (ops : Array Oper) (n : Nat) (L : List (Nat × Nat)) : Bool := L.all fun q => decide (q.2 < n) && (match ops[q.2]? with | some o => waitsB md o q.1 | none => false)
theorem eats_eaten {L : List (Nat × Nat)} {c k : Nat} (h : eats L c k = true) : eaten L c = true := by
  unfold eats at h
  unfold eaten
  obtain ⟨q, h1, h2⟩ := List.any_eq_true.1 h
  simp only [Bool.and_eq_true, decide_eq_true_eq] at h2
  exact List.any_eq_true.2 ⟨q, h1, by simpa using h2.1⟩
def depsO (md : Region.Mode) (L : List (Nat × Nat)) (V : Nat → OwnS) (k : Nat) (u : Nat → Value) (w : World) : List Edge → Prop
  | [] => True
  | e :: l => (Region.binds md e = true → (eaten L e.on = false ∨ eats L e.on k = true) → (V e.on).p (u e.on) w) ∧ depsO md L V k u w l
theorem depsO_of {L : List (Nat × Nat)} {V : Nat → OwnS} {k : Nat} {u : Nat → Value} {w : World} : ∀ (l : List Edge), (∀ e ∈ l, Region.binds md e = true → (eaten L e.on = false ∨ eats L e.on k = true) → (V e.on).p (u e.on) w) → depsO md L V k u w l
  | [], _ => trivial
  | e :: l, h => ⟨h e (by simp), depsO_of l (fun e he => h e (by simp [he]))⟩
/-- the blocks that operation k may write into -/
def takenO (L : List (Nat × Nat)) (V : Nat → OwnS) (u : Nat → Value) (k b : Nat) : Prop := ∃ c, eats L c k = true ∧ (V c).own (u c) b
def StepO (w0 : World) (T : Nat → Prop) (s : OwnS) (w : World) (v : Value) (w' : World) : Prop :=
  Below w0.heap.size w w' ∧ (∀ b, b < w.heap.size → ¬ T b → w'.heap[b]? = w.heap[b]?) ∧ s.p v w' ∧ ∀ b, s.own v b → w.heap.size ≤ b ∨ T b
def relAllO (P : Program) (md : Region.Mode) (ops : Array Oper) (w0 : World) (L : List (Nat × Nat)) (V : Nat → OwnS) (fr : (Nat → Value) → Act) : List Oper → Nat → Prop
  | [], _ => True
  | o :: l, k => (∀ (u : Nat → Value) (w : World), Below w0.heap.size w0 w → depsO md L V k u w o.after.toList →
      if Region.wanted o (yielded ops (fr u).tmps) = true then relOp P o (fr u) w (fun v w' => StepO w0 (takenO L V u k) (V k) w v w') else (V k).p undef w ∧ ∀ b, ¬ (V k).own undef b) ∧ relAllO P md ops w0 L V fr l (k + 1)
theorem relAllO_at {ops : Array Oper} {w0 : World} {L : List (Nat × Nat)} {V : Nat → OwnS} {fr : (Nat → Value) → Act} : ∀ (l : List Oper) (k i : Nat) (o : Oper), relAllO P md ops w0 L V fr l k → l[i]? = some o →
    ∀ (u : Nat → Value) (w : World), Below w0.heap.size w0 w → depsO md L V (k + i) u w o.after.toList →
      if Region.wanted o (yielded ops (fr u).tmps) = true then relOp P o (fr u) w (fun v w' => StepO w0 (takenO L V u (k + i)) (V (k + i)) w v w') else (V (k + i)).p undef w ∧ ∀ b, ¬ (V (k + i)).own undef b
  | [], _, _, _, _, h => by simp at h
  | o' :: l, k, 0, o, hr, h => by
    obtain rfl : o' = o := by simpa using h
    exact hr.1
  | o' :: l, k, i + 1, o, hr, h => by
    have := relAllO_at l (k + 1) i o hr.2 (by simpa using h)
    rwa [show k + 1 + i = k + (i + 1) by omega] at this
/-- done, and not yet taken -/
def liveO (L : List (Nat × Nat)) (listed : Array Bool) (j : Nat) : Prop := listed.getD j false = true ∧ ∀ k, eats L j k = true → listed.getD k false = false
theorem wpAny_relo {l : List Oper} {n : Nat} {a0 : Act} {w0 : World} {L : List (Nat × Nat)} {V : Nat → OwnS} {Q : Exit → Act → World → Prop} (hB : relB md l n = true) (hE : eatsB md l.toArray n L = true) (hone : ∀ c i k, eats L c i = true → eats L c k = true → i = k)
    (hall : relAllO P md l.toArray w0 L V (fun u => fillL a0 (l.take n) u 0) (l.take n) 0)
    (hend : ∀ (u : Nat → Value) (w : World), Below w0.heap.size w0 w → (∀ j, j < n → eaten L j = false → (V j).p (u j) w) → wpList P l.toArray Q (l.drop n) (fillL a0 (l.take n) u 0) w) :
    ∀ (f : Nat) (listed : Array Bool) (u : Nat → Value) (w : World), unlisted n listed = f → HeadInv md l.toArray n listed → Below w0.heap.size w0 w → (∀ j, j < n → liveO L listed j → (V j).p (u j) w) → (∀ i j, i < n → j < n → i ≠ j → liveO L listed i → liveO L listed j → ∀ b, (V i).own (u i) b → ¬ (V j).own (u j) b) →
      wpAny P md l.toArray Q (f + (l.length - n)) listed (fillL a0 (l.take n) u 0) w := by
  simp only [relB, Bool.and_eq_true, Bool.or_eq_true, decide_eq_true_eq] at hB
  obtain ⟨⟨⟨hn, hback⟩, hseq⟩, hd⟩ := hB
  have hnl : n ≤ l.length := by omega
  have hwait : ∀ c k, eats L c k = true → ∃ o, l.toArray[k]? = some o ∧ waitsB md o c = true := fun c k h => by
    unfold eats at h
    obtain ⟨q, h1, h2⟩ := List.any_eq_true.1 h
    simp only [Bool.and_eq_true, decide_eq_true_eq] at h2
    have h3 := List.all_eq_true.1 hE q h1
    rw [h2.1, h2.2] at h3
    simp only [Bool.and_eq_true] at h3
    split at h3
    · rename_i o ho; exact ⟨o, ho, h3.2⟩
    · cases h3.2
  intro f
  induction f with
  | zero =>
    intro listed u w hf inv hb hV hD
    have hdone : ∀ j, j < n → listed.getD j false = true := by
      intro j hj
      have h0 : (List.range n).countP (fun j => !listed.getD j false) = 0 := hf
      rw [List.countP_eq_zero] at h0
      simpa using h0 j (List.mem_range.2 hj)
    have hlist : listed = headsDone n l.length := by
      apply Array.ext
      · simp [headsDone, inv.size]; omega
      · intro i h1 h2
        have hsz : listed.size = l.length := by rw [inv.size]; simp
        have h3 : i < (List.replicate n true ++ List.replicate (l.length - n) false).length := by simpa [headsDone] using h2
        show listed[i] = (List.replicate n true ++ List.replicate (l.length - n) false)[i]'h3
        by_cases hi : i < n
        · rw [List.getElem_append_left (by simpa using hi), List.getElem_replicate]
          have := hdone i hi
          simpa [h1] using this
        · rw [List.getElem_append_right (by simpa using hi), List.getElem_replicate]
          have := inv.tail i (by omega) (by simp; omega)
          simpa [h1] using this
    rw [Nat.zero_add]
    have := wpAny_of_seq (P := P) (ops := l.toArray) (md := md) (Q' := Q) (l.drop n) n listed (fillL a0 (l.take n) u 0) w (fun j => by simp [List.getElem?_drop])
      (by rw [List.length_drop, hlist]; exact hseq) (hend u w hb (fun j hj hjp => hV j hj ⟨hdone j hj, fun k hk => by rw [eats_eaten hk] at hjp; cases hjp⟩))
    rwa [List.length_drop] at this
  | succ f ih =>
    intro listed u w hf inv hb hV hD
    have hsz : listed.size = l.length := by rw [inv.size]; simp
    obtain ⟨i0, hi0, hun0⟩ : ∃ i, i < n ∧ listed.getD i false = false := by
      apply Classical.byContradiction
      intro hno
      have : unlisted n listed = 0 := by
        unfold unlisted
        rw [List.countP_eq_zero]
        intro j hj
        have : listed.getD j false = true := by
          cases h : listed.getD j false with
          | true => rfl
          | false => exact absurd ⟨j, List.mem_range.1 hj, h⟩ hno
        rw [this]
        decide
      omega
    rw [show f + 1 + (l.length - n) = (f + (l.length - n)) + 1 by omega]
    refine ⟨fun h => absurd h (some_ready hback (by simpa using hnl) i0 i0 rfl hi0 hun0 (by omega) (fun j hj => by omega)), fun i hi => ?_⟩
    obtain ⟨hiun, o, ho, hdeps⟩ := mem_ready.1 hi
    have hilt : i < l.length := by have := (Array.getElem?_eq_some_iff.1 ho).1; simpa using this
    have hin : i < n := by
      rcases hn with hn | ⟨⟨hn, hs⟩, hc⟩
      · omega
      · exact (Nat.lt_or_ge i n).resolve_right fun h => tail_waits hs hc (by simpa using hn) inv _ i0 rfl hi0 (getD_in (by omega) hun0) i h hi
    have hiun' : listed.getD i false = false := getD_both hiun
    have hol : (l.take n)[i]? = some o := by
      rw [List.getElem?_take_of_lt hin]; simpa using ho
    have hdv : depsO md L V i u w o.after.toList := depsO_of _ fun e he hbd hpq => by
      have hbk := List.all_eq_true.1 hback i (List.mem_range.2 hin)
      simp only [ho] at hbk
      have h2 := List.all_eq_true.1 hbk e he
      simp only [hbd, Bool.not_true, Bool.false_or, decide_eq_true_eq] at h2
      refine hV e.on (by omega) ⟨hdeps e (by simpa using he) hbd, fun k hk => ?_⟩
      rcases hpq with h | h
      · rw [eats_eaten hk] at h; cases h
      · rw [← hone e.on i k h hk]; exact hiun'
    have hstep0 := relAllO_at _ 0 i o hall hol
    have hstep := hstep0 u w hb (by rw [Nat.zero_add]; exact hdv)
    simp only [Nat.zero_add] at hstep
    -- what is taken here is done, and live till now
    have hlc : ∀ c, eats L c i = true → c < n ∧ c ≠ i ∧ liveO L listed c := fun c hc => by
      obtain ⟨o', ho', hw'⟩ := hwait c i hc
      rw [ho] at ho'
      cases ho'
      unfold waitsB at hw'
      obtain ⟨ed, he1, he2⟩ := List.any_eq_true.1 hw'
      simp only [Bool.and_eq_true, decide_eq_true_eq] at he2
      have hcd : listed.getD c false = true := by rw [← he2.1]; exact hdeps ed (by simpa using he1) he2.2
      have hbk := List.all_eq_true.1 hback i (List.mem_range.2 hin)
      simp only [ho] at hbk
      have h2 := List.all_eq_true.1 hbk ed (by simpa using he1)
      simp only [he2.2, Bool.not_true, Bool.false_or, decide_eq_true_eq] at h2
      refine ⟨by omega, by omega, hcd, fun k hk => ?_⟩
      rw [← hone c i k hc hk]; exact hiun'
    have hgo : ∀ v w', Below w0.heap.size w w' → (∀ b, b < w.heap.size → ¬ takenO L V u i b → w'.heap[b]? = w.heap[b]?) → (V i).p v w' → (∀ b, (V i).own v b → w.heap.size ≤ b ∨ takenO L V u i b) → wpAny P md l.toArray Q (f + (l.length - n)) (listed.setIfInBounds i true) ((fillL a0 (l.take n) u 0).put o.dst v) w' := by
      intro v w' hb1 hkeep hv hown
      have hbw : Below w0.heap.size w0 w' := hb.trans hb1
      rw [fill_put (l.take n) a0 u 0 i o hd hol]
      have hold : ∀ j, j < n → j ≠ i → liveO L (listed.setIfInBounds i true) j → liveO L listed j ∧ eats L j i = false := fun j hj hji hl => by
        have h1 := hl.1
        rw [getD_set_ne false (by omega)] at h1
        refine ⟨⟨h1, fun k hk => ?_⟩, ?_⟩
        · have h2 := hl.2 k hk
          by_cases hki : k = i
          · subst hki; exact hiun'
          · rwa [getD_set_ne false (by omega)] at h2
        · cases he : eats L j i with
          | false => rfl
          | true =>
            have h2 := hl.2 i he
            rw [Array.getD_eq_getD_getElem?, Array.getElem?_setIfInBounds_self_of_lt (by omega)] at h2
            cases h2
      have hnot : ∀ j, j < n → liveO L listed j → eats L j i = false → ∀ b, (V j).own (u j) b → ¬ takenO L V u i b := fun j hj hl he b hb2 ⟨c, hc, hcb⟩ => by
        obtain ⟨h1, h2, h3⟩ := hlc c hc
        have hjc : j ≠ c := fun e => by rw [e, hc] at he; cases he
        exact hD j c hj h1 hjc hl h3 b hb2 hcb
      have hsame : ∀ j, j ≠ i → upd u (0 + i) v j = u j := fun j hji => by unfold upd; rw [if_neg (by omega)]
      have hself : upd u (0 + i) v i = v := by unfold upd; rw [if_pos (by omega)]
      refine ih _ _ _ ?_ (inv.set hi hin) hbw ?_ ?_
      · have := unlisted_set hin (by omega : i < listed.size) hiun'
        omega
      · intro j hj hl
        by_cases hji : j = i
        · subst hji; rw [hself]; exact hv
        · rw [hsame j hji]
          obtain ⟨h1, h2⟩ := hold j hj hji hl
          have h3 := hV j hj h1
          exact (V j).stab _ _ _ h3 hb1.size (fun b hb2 => hkeep b ((V j).lt _ _ _ h3 hb2) (hnot j hj h1 h2 b hb2))
      · intro x y hx hy hxy hlx hly b hb1' hb2'
        by_cases hxi : x = i
        · subst hxi
          rw [hself] at hb1'
          rw [hsame y (by omega)] at hb2'
          obtain ⟨h1, h2⟩ := hold y hy (by omega) hly
          rcases hown b hb1' with h | h
          · have := (V y).lt _ _ _ (hV y hy h1) hb2'; omega
          · exact hnot y hy h1 h2 b hb2' h
        · rw [hsame x hxi] at hb1'
          obtain ⟨h1, h2⟩ := hold x hx hxi hlx
          by_cases hyi : y = i
          · subst hyi
            rw [hself] at hb2'
            rcases hown b hb2' with h | h
            · have := (V x).lt _ _ _ (hV x hx h1) hb1'; omega
            · exact hnot x hx h1 h2 b hb1' h
          · rw [hsame y hyi] at hb2'
            exact hD x y hx hy hxy h1 (hold y hy hyi hly).1 b hb1' hb2'
    unfold wpOp
    simp only [ho]
    split
    · rename_i hw
      rw [if_pos hw] at hstep
      exact .inl (relOp_wp hstep fun v w' ⟨h1, h2, h3, h4⟩ => hgo v w' h1 h2 h3 h4)
    · rename_i hw
      rw [if_neg hw] at hstep
      exact hgo _ _ (Below.refl _ _) (fun _ _ _ => rfl) hstep.1 (fun b hb2 => absurd hb2 (hstep.2 b))
def updO (V : Nat → OwnS) (k : Nat) (p : OwnS) : Nat → OwnS := fun j => if j = k then p else V j
def relWalkO (P : Program) (md : Region.Mode) (ops : Array Oper) (w0 : World) (L : List (Nat × Nat)) (fr : (Nat → Value) → Act) (fin : (Nat → OwnS) → Prop) : List Oper → Nat → (Nat → OwnS) → Prop
  | [], _, V => fin V
  | o :: l, k, V => ∃ s : OwnS, (∀ (u : Nat → Value) (w : World), Below w0.heap.size w0 w → depsO md L V k u w o.after.toList →
      if Region.wanted o (yielded ops (fr u).tmps) = true then relOp P o (fr u) w (fun v w' => StepO w0 (fun b => ∃ c, c < k ∧ eats L c k = true ∧ (V c).own (u c) b) s w v w') else s.p undef w ∧ ∀ b, ¬ s.own undef b) ∧ relWalkO P md ops w0 L fr fin l (k + 1) (updO V k s)
theorem depsO_congr {L : List (Nat × Nat)} {V V' : Nat → OwnS} {k' : Nat} {u : Nat → Value} {w : World} {k : Nat} : ∀ l : List Edge, (l.all fun e => !Region.binds md e || decide (e.on < k)) = true → (∀ j, j < k → V j = V' j) → depsO md L V k' u w l → depsO md L V' k' u w l
  | [], _, _, _ => trivial
  | e :: l, hb, he, h => by
    simp only [List.all_cons, Bool.and_eq_true] at hb
    refine ⟨fun hbd hpq => ?_, depsO_congr l hb.2 he h.2⟩
    have h1 := h.1 hbd hpq
    have h2 : e.on < k := by simpa [hbd] using hb.1
    rw [← he _ h2]
    exact h1
theorem relAllO_of {ops : Array Oper} {w0 : World} {L : List (Nat × Nat)} {fr : (Nat → Value) → Act} {fin : (Nat → OwnS) → Prop} : ∀ (l : List Oper) (k : Nat) (V : Nat → OwnS), backL md l k = true → relWalkO P md ops w0 L fr fin l k V →
    ∃ V' : Nat → OwnS, (∀ j, j < k → V' j = V j) ∧ relAllO P md ops w0 L V' fr l k ∧ fin V'
  | [], _, V, _, h => ⟨V, fun _ _ => rfl, trivial, h⟩
  | o :: l, k, V, hb, h => by
    obtain ⟨s, h1, h2⟩ := h
    simp only [backL, Bool.and_eq_true] at hb
    obtain ⟨V', he, ha, hf⟩ := relAllO_of l (k + 1) _ hb.2 h2
    have hE : ∀ j, j < k → V' j = V j := fun j hj => by rw [he j (by omega)]; unfold updO; rw [if_neg (by omega)]
    have hp : V' k = s := by rw [he k (by omega)]; unfold updO; rw [if_pos rfl]
    refine ⟨V', hE, ⟨fun u w hbl hd => ?_, ha⟩, hf⟩
    have h3 := h1 u w hbl (depsO_congr _ hb.1 hE hd)
    rw [hp]
    split
    · rename_i hw
      rw [if_pos hw] at h3
      have hT : ∀ b, (∃ c, c < k ∧ eats L c k = true ∧ (V c).own (u c) b) → takenO L V' u k b := fun b ⟨c, h5, h6, h7⟩ => ⟨c, h6, by rw [hE c h5]; exact h7⟩
      exact relOp_mono h3 (fun v w' ⟨q1, q2, q3, q4⟩ => ⟨q1, fun b hb hn => q2 b hb (fun h => hn (hT b h)), q3, fun b hb => (q4 b hb).imp id (hT b)⟩)
    · rename_i hw
      rw [if_neg hw] at h3
      exact h3
def endO (L : List (Nat × Nat)) (V : Nat → OwnS) (u : Nat → Value) (w : World) : Nat → Prop
  | 0 => True
  | k + 1 => endO L V u w k ∧ (eaten L k = false → (V k).p (u k) w)
theorem endO_get {L : List (Nat × Nat)} {V : Nat → OwnS} {u : Nat → Value} {w : World} : ∀ {n : Nat}, endO L V u w n → ∀ i, i < n → eaten L i = false → (V i).p (u i) w
  | 0, _, i, hi, _ => by omega
  | n + 1, h, i, hi, he => by
    by_cases e : i = n
    · subst e; exact h.2 he
    · exact endO_get h.1 i (by omega) he
theorem endO_of {L : List (Nat × Nat)} {V : Nat → OwnS} {u : Nat → Value} {w : World} : ∀ n, (∀ j, j < n → eaten L j = false → (V j).p (u j) w) → endO L V u w n
  | 0, _ => trivial
  | n + 1, h => ⟨endO_of n (fun j hj => h j (by omega)), h n (by omega)⟩
def oneB (L : List (Nat × Nat)) : Bool := L.all fun q => L.all fun r => !decide (q.1 = r.1) || decide (q.2 = r.2)
/-- **THE THEOREM** -/
theorem wp_region_own {id : Nat} {Q : Exit → Act → World → Prop} {a : Act} {w : World} {l : List Oper} (n : Nat) (L : List (Nat × Nat)) (hm : P.follows .mixedOrders = true) (hB : relB .any l n = true) (hL : backL .any (l.take n) 0 = true) (hE : eatsB .any l.toArray n L = true) (hO : oneB L = true)
    (h : relWalkO P .any l.toArray w L (fun u => fillL a (l.take n) u 0) (fun V => ∀ (u : Nat → Value) (w' : World), Below w.heap.size w w' → endO L V u w' n → wpList P l.toArray Q (l.drop n) (fillL a (l.take n) u 0) w') (l.take n) 0 (fun _ => OwnS.any)) :
    (Code.region id l.toArray true).wp P Q a w := by
  obtain ⟨V, _, hall, hend⟩ := relAllO_of _ _ _ hL h
  refine wp_region_any hm ?_
  have inv0 : HeadInv .any l.toArray n (Array.replicate l.toArray.size false) :=
    ⟨by simp, fun j oj _ hl => (by rw [getD_replicate_false] at hl; cases hl), fun t _ ht => getD_in (by simpa using ht) (getD_replicate_false _ _)⟩
  have hone : ∀ c i k, eats L c i = true → eats L c k = true → i = k := fun c i k h1 h2 => by
    unfold eats at h1 h2
    obtain ⟨q, p1, p2⟩ := List.any_eq_true.1 h1
    obtain ⟨r, r1, r2⟩ := List.any_eq_true.1 h2
    simp only [Bool.and_eq_true, decide_eq_true_eq] at p2 r2
    have := List.all_eq_true.1 (List.all_eq_true.1 hO q p1) r r1
    simp only [Bool.or_eq_true, Bool.not_eq_true', decide_eq_false_iff_not, decide_eq_true_eq] at this
    omega
  have h0 : unlisted n (Array.replicate l.toArray.size false) = n := by
    unfold unlisted
    rw [List.countP_eq_length.2]
    · simp
    · intro j _
      rw [getD_replicate_false]
      rfl
  have hnl : ∀ j, ¬ liveO L (Array.replicate l.toArray.size false) j := fun j h => by have := h.1; rw [getD_replicate_false] at this; cases this
  have := wpAny_relo hB hE hone hall (fun u w' hb hv => hend u w' hb (endO_of n hv)) n _ (fun j => curU a (l.take n) j) { w with drawn := w.drawn + 1 } h0 inv0 ⟨rfl, rfl, rfl, Nat.le_refl _, fun _ _ => rfl⟩ (fun j _ hl => absurd hl (hnl j)) (fun i _ _ _ _ hl => absurd hl (hnl i))
  rw [fill_cur a (l.take n) 0 _ (fun j => by rw [Nat.zero_add]), show n + (l.length - n) = l.toArray.size by simp; have := hB; simp only [relB, Bool.and_eq_true, Bool.or_eq_true, decide_eq_true_eq] at this; omega] at this
  exact this
section
variable {ops : Array Oper} {w0 : World} {L : List (Nat × Nat)} {fr : (Nat → Value) → Act} {fin : (Nat → OwnS) → Prop} {o : Oper} {l : List Oper} {k : Nat} {V : Nat → OwnS}
/-- one known value -/
theorem relo_is {x : Value}
    (h : ∀ (u : Nat → Value) (w : World), Below w0.heap.size w0 w → depsO md L V k u w o.after.toList → if Region.wanted o (yielded ops (fr u).tmps) = true then relOp P o (fr u) w (fun v w' => Below w.heap.size w w' ∧ v = x) else undef = x)
    (hl : relWalkO P md ops w0 L fr fin l (k + 1) (updO V k (OwnS.is x))) : relWalkO P md ops w0 L fr fin (o :: l) k V := by
  refine ⟨OwnS.is x, fun u w hb hd => ?_, hl⟩
  have h1 := h u w hb hd
  split
  · rename_i hw
    rw [if_pos hw] at h1
    exact relOp_mono h1 (fun v w' h => ⟨h.1.mono hb.size, fun b hb _ => h.1.block b hb, h.2, fun _ h => h.elim⟩)
  · rename_i hw
    rw [if_neg hw] at h1
    exact ⟨h1, fun _ h => h⟩
/-- new memory -/
theorem relo_new (s : OwnS)
    (h : ∀ (u : Nat → Value) (w : World), Below w0.heap.size w0 w → depsO md L V k u w o.after.toList → Region.wanted o (yielded ops (fr u).tmps) = true ∧ relOp P o (fr u) w (fun v w' => Below w.heap.size w w' ∧ s.p v w' ∧ ∀ b, s.own v b → w.heap.size ≤ b))
    (hl : relWalkO P md ops w0 L fr fin l (k + 1) (updO V k s)) : relWalkO P md ops w0 L fr fin (o :: l) k V := by
  refine ⟨s, fun u w hb hd => ?_, hl⟩
  have h1 := h u w hb hd
  rw [if_pos h1.1]
  exact relOp_mono h1.2 (fun v w' h => ⟨h.1.mono hb.size, fun b hb _ => h.1.block b hb, h.2.1, fun b hb => .inl (h.2.2 b hb)⟩)
theorem run_append_own2 (w : World) (base : Nat) (t ty e : TypeId) (i : TypeInfo) (z : Value) (size bytes : Nat) (ht : P.underlying t = some (.slice e)) (hi : P.info? e = some i) (hz : i.zero = some z)
    (hsize : i.size = size) (hby : i.bytes = bytes) (hzs : z.cells.size = size) (hsz : 0 < size)
    (v : Value) (n : Nat) (xs : List Value) (hown : w.ownsRow base e size v n xs)
    (oa : Option Addr) (m c : Nat) (news : List Value) (hl : news.length = m * size) (h0 : oa = none → m = 0) (hnews : ∀ ad, oa = some ad → ∀ j u, news[j]? = some u → w.cell? (ad.add j) = some u) (h1 : ∀ u ∈ news, u.oneCell' = true)
    (h63 : n + m ≤ maxLen) (hbytes : (n + m) * bytes ≤ 140737488355328) (hbase : base ≤ w.heap.size) :
    ∃ v' w', (Builtin.append_ #[t, t] ty #[v, .slice oa m c]).run P w = .ok v' w' ∧ w'.ownsRow base e size v' (n + m) (xs ++ news) ∧ w.grownBy w' v.ownBlock ∧ ∀ b, v'.ownBlock = some b → w.heap.size ≤ b ∨ v.ownBlock = some b := by
  cases oa with
  | none =>
    have hm := h0 rfl
    subst hm
    have hn : news = [] := List.eq_nil_of_length_eq_zero (by omega)
    subst hn
    exact ⟨v, w, run_append_nonil base t ty e i size ht hi v n xs hown c, by simpa using hown, ⟨rfl, rfl, rfl, Nat.le_refl _, fun _ _ _ => rfl⟩, fun b hb => .inr hb⟩
  | some ad =>
    by_cases hv : v.ownBlock = none
    · -- nothing yet: whatever comes lies above
      have hown2 : w.ownsRow w.heap.size e size v n xs := by
        refine ⟨hown.1, ?_⟩
        rcases hown.2 with h | ⟨g, cap, cur, rfl, h⟩
        · exact .inl h
        · cases hv
      obtain ⟨v', w', r1, r2, r3, -⟩ := run_append_own (P := P) w w.heap.size t ty e i z size bytes ht hi hz hsize hby hzs hsz v n xs hown2 ad m c news hl (hnews ad rfl) h1 h63 hbytes (Nat.le_refl _)
      refine ⟨v', w', r1, ⟨r2.1, ?_⟩, r3, fun b hb => .inl (r2.lt b hb).1⟩
      rcases r2.2 with h | ⟨g, cap, cur, h1, h2, h3⟩
      · exact .inl h
      · exact .inr ⟨g, cap, cur, h1, by omega, h3⟩
    · rcases hown.2 with ⟨rfl, _⟩ | ⟨g, cap, cur, rfl, hbg, hg, hnc, hcm, hcs, htake⟩
      · exact absurd rfl hv
      · obtain ⟨v', w', r1, r2, r3, -⟩ := run_append_own (P := P) w base t ty e i z size bytes ht hi hz hsize hby hzs hsz _ n xs hown ad m c news hl (hnews ad rfl) h1 h63 hbytes hbase
        refine ⟨v', w', r1, r2, r3, fun b hb => ?_⟩
        subst hsize
        subst hby
        by_cases hroom : n + m ≤ cap
        · have hfit : n * i.size + news.length ≤ cur.size := by rw [hl, hcs, ← Nat.add_mul]; exact Nat.mul_le_mul_right _ hroom
          have hr := run_append_room (P := P) w t ty e i ht hi g n cap cur hg ad m c news hl (hnews ad rfl) h1 hroom hfit
          rw [hr] at r1
          cases r1
          exact .inr hb
        · have holds : ∀ j u, xs[j]? = some u → w.cell? ((⟨g, 0, none⟩ : Addr).add j) = some u := hown.cells (g := g) rfl
          have hr := run_append_grow (P := P) w t ty e i z ht hi hz ⟨g, 0, none⟩ n cap xs hown.1 holds ad m c news hl (hnews ad rfl) (by omega) (by simp only [maxLen] at h63; omega) (growslice_fits (by omega) hbytes)
          rw [hr] at r1
          cases r1
          simp only [Value.ownBlock, Option.some.injEq] at hb
          subst hb
          exact .inl (Nat.le_refl _)
/-- an append to a row that nobody else takes -/
theorem relo_append (c : Nat) (hc : c < k) (he : eats L c k = true) (s x : Operand) (t : TypeId) (hgd : o.guard = none)
    (ho : o.op = .call { callee := .builtin .append, args := #[s, x], argTypes := #[t, t] }) (e : TypeId) (i : TypeInfo) (z : Value) (size bytes n m : Nat) (xs news : List Value)
    (ht : P.underlying t = some (.slice e)) (hi : P.info? e = some i) (hz : i.zero = some z) (hsize : i.size = size) (hby : i.bytes = bytes) (hzs : z.cells.size = size) (hsz : 0 < size)
    (hV : ∀ v w, (V c).p v w → w.ownsRow w0.heap.size e size v n xs) (hVo : ∀ v b, v.ownBlock = some b → (V c).own v b)
    (hw : waitsB md o c = true) (h63 : n + m ≤ maxLen) (hbytes : (n + m) * bytes ≤ 140737488355328) (hl1 : news.length = m * size) (h1 : ∀ u ∈ news, u.oneCell' = true)
    (h : ∀ (u : Nat → Value) (w : World), Below w0.heap.size w0 w → depsO md L V k u w o.after.toList → (fr u).eval s = u c ∧ ∃ oa cc, (fr u).eval x = .slice oa m cc ∧ (oa = none → m = 0) ∧ ∀ ad, oa = some ad → ∀ j u, news[j]? = some u → w.cell? (ad.add j) = some u)
    (hl : relWalkO P md ops w0 L fr fin l (k + 1) (updO V k (OwnS.row w0.heap.size e size (n + m) (xs ++ news)))) : relWalkO P md ops w0 L fr fin (o :: l) k V := by
  refine ⟨OwnS.row w0.heap.size e size (n + m) (xs ++ news), fun u w hb hd => ?_, hl⟩
  have hwd : Region.wanted o (yielded ops (fr u).tmps) = true := by simp [Region.wanted, hgd]
  rw [if_pos hwd]
  obtain ⟨h2, oa, cc, h3, h4, h5⟩ := h u w hb hd
  have hdep : (V c).p (u c) w := by
    have : ∀ el : List Edge, depsO md L V k u w el → (el.any fun e => decide (e.on = c) && Region.binds md e) = true → (V c).p (u c) w := by
      intro el
      induction el with
      | nil => intro _ h; cases h
      | cons ed el ih =>
        intro hd hany
        simp only [List.any_cons, Bool.or_eq_true, Bool.and_eq_true, decide_eq_true_eq] at hany
        rcases hany with ⟨h6, h7⟩ | h6
        · rw [← h6]; exact hd.1 h7 (.inr (by rw [h6]; exact he))
        · exact ih hd.2 h6
    exact this _ hd (by unfold waitsB at hw; simpa using hw)
  have hown := hV _ _ hdep
  obtain ⟨v', w', r1, r2, r3, r4⟩ := run_append_own2 w w0.heap.size t o.type e i z size bytes ht hi hz hsize hby hzs hsz (u c) n xs hown oa m cc news hl1 h4 h5 h1 h63 hbytes hb.size
  unfold relOp execOp
  simp only [ho, resolve, invoke, builtin, Sem.run_bind, Sem.run_pure, Result.andThen_ok, List.map_toArray, List.map_cons, List.map_nil, h2, h3, r1]
  refine ⟨⟨r3.os, r3.tape, r3.output, r3.size, fun b hbl => r3.block b (by have := hb.size; omega) (fun hq => ?_)⟩, fun b hbl hn => r3.block b hbl (fun hq => hn ⟨c, hc, he, hVo _ _ hq.symm⟩), r2, fun b hbo => (r4 b hbo).imp id (fun hq => ⟨c, hc, he, hVo _ _ hq⟩)⟩
  have := (hown.lt b hq.symm).1
  omega
end
end
end Go.Proofs.Ytpjdmjmgkdgfnaa
