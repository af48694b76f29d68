/-
  A region that draws its order, walked once in the order of the text, in which one operation (q) may write into old blocks: all that reads stands before it, by its edges. Conditions: none. By an AI agent.
-/
import Derived.Test.YtpjdmjmgkdgfnaaRelc
namespace Go.Proofs.Ytpjdmjmgkdgfnaa
open Go Go.RowKit
set_option linter.unusedVariables false
section
variable {P : Program} {md : Region.Mode}
/-- each of 'pre' is waited for, by q in the end -/
def preB (md : Region.Mode) (ops : Array Oper) (n q : Nat) (pre : List Nat) : Bool :=
  pre.all fun k => decide (k < n) && decide (k ≠ q) && (List.range n).any fun k' => (decide (k' = q) || (decide (k < k') && pre.contains k')) && (match ops[k']? with | some o => waitsB md o k | none => false)
def Const (s : Stay) : Prop := ∀ v w w', s.p v w → s.p v w'
theorem Const.is (x : Value) : Const (Stay.is x) := fun _ _ _ h => h
def relAllM (P : Program) (md : Region.Mode) (ops : Array Oper) (w0 : World) (V : Nat → Stay) (pre : List Nat) (q : Nat) (fr : (Nat → Value) → Act) : List Oper → Nat → Prop
  | [], _ => True
  | o :: l, k => ((k ∈ pre → ∀ (u : Nat → Value) (w : World), Below w0.heap.size w0 w → depsS md V u w o.after.toList →
        if Region.wanted o (yielded ops (fr u).tmps) = true then relOp P o (fr u) w (fun v w' => Below w.heap.size w w' ∧ (V k).p v w') else (V k).p undef w) ∧
      (k = q → ∀ (u : Nat → Value) (w : World), Below w0.heap.size w0 w → depsS md V u w o.after.toList → Region.wanted o (yielded ops (fr u).tmps) = true ∧ relOp P o (fr u) w (fun v w' => (V k).p v w')) ∧
      (k ∉ pre → k ≠ q → Const (V k) ∧ ∀ (u : Nat → Value) (w : World), Region.wanted o (yielded ops (fr u).tmps) = true ∧ relOp P o (fr u) w (fun v w' => w' = w ∧ (V k).p v w'))) ∧ relAllM P md ops w0 V pre q fr l (k + 1)
theorem relAllM_at {ops : Array Oper} {w0 : World} {V : Nat → Stay} {pre : List Nat} {q : Nat} {fr : (Nat → Value) → Act} : ∀ (l : List Oper) (k i : Nat) (o : Oper), relAllM P md ops w0 V pre q fr l k → l[i]? = some o →
    (k + i ∈ pre → ∀ (u : Nat → Value) (w : World), Below w0.heap.size w0 w → depsS md V u w o.after.toList →
        if Region.wanted o (yielded ops (fr u).tmps) = true then relOp P o (fr u) w (fun v w' => Below w.heap.size w w' ∧ (V (k + i)).p v w') else (V (k + i)).p undef w) ∧
      (k + i = q → ∀ (u : Nat → Value) (w : World), Below w0.heap.size w0 w → depsS md V u w o.after.toList → Region.wanted o (yielded ops (fr u).tmps) = true ∧ relOp P o (fr u) w (fun v w' => (V (k + i)).p v w')) ∧
      (k + i ∉ pre → k + i ≠ q → Const (V (k + i)) ∧ ∀ (u : Nat → Value) (w : World), Region.wanted o (yielded ops (fr u).tmps) = true ∧ relOp P o (fr u) w (fun v w' => w' = w ∧ (V (k + i)).p v w'))
  | [], _, _, _, _, h => by simp at h
  | o' :: l, k, 0, o, hr, h => by
    obtain rfl : o' = o := by simpa using h
    exact hr.1
  | o' :: l, k, i + 1, o, hr, h => by
    have := relAllM_at l (k + 1) i o hr.2 (by simpa using h)
    rwa [show k + 1 + i = k + (i + 1) by omega] at this
theorem pre_listed {ops : Array Oper} {n q : Nat} {pre : List Nat} {listed : Array Bool} (hp : preB md ops n q pre = true) (inv : HeadInv md ops n listed) (hq : listed.getD q false = true) : ∀ (d k : Nat), n - k = d → k ∈ pre → listed.getD k false = true := by
  intro d
  induction d using Nat.strongRecOn with
  | _ d ih =>
    intro k hd hk
    have h1 := List.all_eq_true.1 hp k hk
    simp only [Bool.and_eq_true, decide_eq_true_eq] at h1
    obtain ⟨⟨hkn, hkq⟩, h2⟩ := h1
    obtain ⟨k', hk', h3⟩ := List.any_eq_true.1 h2
    simp only [Bool.and_eq_true, Bool.or_eq_true, decide_eq_true_eq] at h3
    obtain ⟨h4, h5⟩ := h3
    have hk'n : k' < n := List.mem_range.1 hk'
    have hl' : listed.getD k' false = true := by
      rcases h4 with rfl | ⟨hlt, hc⟩
      · exact hq
      · exact ih (n - k') (by omega) k' rfl (by simpa using hc)
    cases ho : ops[k']? with
    | none => rw [ho] at h5; cases h5
    | some o =>
      rw [ho] at h5
      unfold waitsB at h5
      obtain ⟨ed, he1, he2⟩ := List.any_eq_true.1 h5
      simp only [Bool.and_eq_true, decide_eq_true_eq] at he2
      have := inv.closed k' o ho hl' ed (by simpa using he1) he2.2
      rwa [he2.1] at this
theorem wpAny_relm {l : List Oper} {n : Nat} {a0 : Act} {w0 : World} {V : Nat → Stay} {pre : List Nat} {q : Nat} {Q : Exit → Act → World → Prop} (hB : relB md l n = true) (hq : q < n) (hP : preB md l.toArray n q pre = true)
    (hall : relAllM P md l.toArray w0 V pre q (fun u => fillL a0 (l.take n) u 0) (l.take n) 0)
    (hend : ∀ (u : Nat → Value) (w : World), (V q).p (u q) w → (∀ j, j < n → j ≠ q → Const (V j) → (V j).p (u j) w) → wpList P l.toArray Q (l.drop n) (fillL a0 (l.take n) u 0) w) :
    ∀ (f : Nat) (listed : Array Bool) (u : Nat → Value) (w : World), unlisted n listed = f → HeadInv md l.toArray n listed →
      (listed.getD q false = false → Below w0.heap.size w0 w ∧ ∀ j, j < n → listed.getD j false = true → (V j).p (u j) w) →
      (listed.getD q false = true → (V q).p (u q) w ∧ ∀ j, j < n → j ≠ q → listed.getD j false = true → Const (V j) → (V j).p (u j) w) →
      wpAny P md l.toArray Q (f + (l.length - n)) listed (fillL a0 (l.take n) u 0) w := by
  have hP0 := hP
  simp only [relB, Bool.and_eq_true, Bool.or_eq_true, decide_eq_true_eq] at hB
  obtain ⟨⟨⟨hn, hback⟩, hseq⟩, hd⟩ := hB
  have hnl : n ≤ l.length := by omega
  intro f
  induction f with
  | zero =>
    intro listed u w hf inv hV0 hV1
    have hdone : ∀ j, j < n → listed.getD j false = true := by
      intro j hj
      have h0 : (List.range n).countP (fun j => !listed.getD j false) = 0 := hf
      rw [List.countP_eq_zero] at h0
      simpa using h0 j (List.mem_range.2 hj)
    have hlist : listed = headsDone n l.length := by
      apply Array.ext
      · simp [headsDone, inv.size]; omega
      · intro i h1 h2
        have hsz : listed.size = l.length := by rw [inv.size]; simp
        have h3 : i < (List.replicate n true ++ List.replicate (l.length - n) false).length := by simpa [headsDone] using h2
        show listed[i] = (List.replicate n true ++ List.replicate (l.length - n) false)[i]'h3
        by_cases hi : i < n
        · rw [List.getElem_append_left (by simpa using hi), List.getElem_replicate]
          have := hdone i hi
          simpa [h1] using this
        · rw [List.getElem_append_right (by simpa using hi), List.getElem_replicate]
          have := inv.tail i (by omega) (by simp; omega)
          simpa [h1] using this
    rw [Nat.zero_add]
    have hv := hV1 (hdone q hq)
    have := wpAny_of_seq (P := P) (ops := l.toArray) (md := md) (Q' := Q) (l.drop n) n listed (fillL a0 (l.take n) u 0) w (fun j => by simp [List.getElem?_drop])
      (by rw [List.length_drop, hlist]; exact hseq) (hend u w hv.1 (fun j hj hjq hc => hv.2 j hj hjq (hdone j hj) hc))
    rwa [List.length_drop] at this
  | succ f ih =>
    intro listed u w hf inv hV0 hV1
    have hsz : listed.size = l.length := by rw [inv.size]; simp
    obtain ⟨i0, hi0, hun0⟩ : ∃ i, i < n ∧ listed.getD i false = false := by
      apply Classical.byContradiction
      intro hno
      have : unlisted n listed = 0 := by
        unfold unlisted
        rw [List.countP_eq_zero]
        intro j hj
        have : listed.getD j false = true := by
          cases h : listed.getD j false with
          | true => rfl
          | false => exact absurd ⟨j, List.mem_range.1 hj, h⟩ hno
        rw [this]
        decide
      omega
    rw [show f + 1 + (l.length - n) = (f + (l.length - n)) + 1 by omega]
    refine ⟨fun h => absurd h (some_ready hback (by simpa using hnl) i0 i0 rfl hi0 hun0 (by omega) (fun j hj => by omega)), fun i hi => ?_⟩
    obtain ⟨hiun, o, ho, hdeps⟩ := mem_ready.1 hi
    have hilt : i < l.length := by have := (Array.getElem?_eq_some_iff.1 ho).1; simpa using this
    have hin : i < n := by
      rcases hn with hn | ⟨⟨hn, hs⟩, hc⟩
      · omega
      · exact (Nat.lt_or_ge i n).resolve_right fun h => tail_waits hs hc (by simpa using hn) inv _ i0 rfl hi0 (getD_in (by omega) hun0) i h hi
    have hiun' : listed.getD i false = false := getD_both hiun
    have hol : (l.take n)[i]? = some o := by
      rw [List.getElem?_take_of_lt hin]; simpa using ho
    have hon : ∀ e ∈ o.after.toList, Region.binds md e = true → e.on < n := fun e he hbd => by
      have hbk := List.all_eq_true.1 hback i (List.mem_range.2 hin)
      simp only [ho] at hbk
      have h2 := List.all_eq_true.1 hbk e he
      simp only [hbd, Bool.not_true, Bool.false_or, decide_eq_true_eq] at h2
      omega
    have hset : ∀ j, (listed.setIfInBounds i true).getD j false = if j = i then true else listed.getD j false := fun j => by
      by_cases hji : j = i
      · rw [if_pos hji, hji, Array.getD_eq_getD_getElem?, Array.getElem?_setIfInBounds_self_of_lt (by omega)]; rfl
      · rw [if_neg hji, getD_set_ne false (by omega)]
    have hupd : ∀ v, upd u (0 + i) v i = v := fun v => by unfold upd; rw [if_pos (by omega)]
    have hupn : ∀ v j, j ≠ i → upd u (0 + i) v j = u j := fun v j h => by unfold upd; rw [if_neg (by omega)]
    obtain ⟨hpre, hqq, hfree⟩ := relAllM_at _ 0 i o hall hol
    simp only [Nat.zero_add] at hpre hqq hfree
    have hf' : unlisted n (listed.setIfInBounds i true) = f := by
      have := unlisted_set hin (by omega : i < listed.size) hiun'
      omega
    cases hlq : listed.getD q false with
    | false =>
      obtain ⟨hb, hV⟩ := hV0 hlq
      have hdv : depsS md V u w o.after.toList := by
        have h := fun e he hbd => hV e.on (hon e he hbd) (hdeps e (by simpa using he) hbd)
        generalize o.after.toList = es at h
        induction es with
        | nil => trivial
        | cons e es ih => exact ⟨fun hbd => h e (by simp) hbd, ih (fun e he => h e (by simp [he]))⟩
      by_cases hiq : i = q
      · have hstep := hqq hiq u w hb hdv
        unfold wpOp
        simp only [ho]
        rw [if_pos hstep.1]
        refine .inl (relOp_wp hstep.2 fun v w' hv => ?_)
        rw [fill_put (l.take n) a0 u 0 i o hd hol]
        refine ih _ _ _ hf' (inv.set hi hin) (fun h => ?_) (fun _ => ?_)
        · rw [hset, if_pos hiq.symm] at h; cases h
        · refine ⟨by rw [← hiq, hupd]; exact hv, fun j hj hjq hl hc => ?_⟩
          rw [hset, if_neg (by omega)] at hl
          rw [hupn _ _ (by omega)]
          exact hc _ _ _ (hV j hj hl)
      · by_cases hip : i ∈ pre
        · have hstep := hpre hip u w hb hdv
          have hgo : ∀ v w', Below w.heap.size w w' → (V i).p v w' → wpAny P md l.toArray Q (f + (l.length - n)) (listed.setIfInBounds i true) ((fillL a0 (l.take n) u 0).put o.dst v) w' := by
            intro v w' hb' hv
            rw [fill_put (l.take n) a0 u 0 i o hd hol]
            refine ih _ _ _ hf' (inv.set hi hin) (fun _ => ⟨hb.trans (hb'.mono hb.size), fun j hj hl => ?_⟩) (fun h => ?_)
            · by_cases hji : j = i
              · rw [hji, hupd]; exact hv
              · rw [hset, if_neg hji] at hl
                rw [hupn _ _ hji]
                exact (V j).grow _ _ _ hb' (hV j hj hl)
            · rw [hset, if_neg (by omega), hlq] at h; cases h
          unfold wpOp
          simp only [ho]
          split
          · rename_i hw
            rw [if_pos hw] at hstep
            exact .inl (relOp_wp hstep fun v w' ⟨h1, h2⟩ => hgo v w' h1 h2)
          · rename_i hw
            rw [if_neg hw] at hstep
            exact hgo _ _ (Below.refl _ _) hstep
        · obtain ⟨hc, hstep⟩ := hfree hip hiq
          have hstep := hstep u w
          unfold wpOp
          simp only [ho]
          rw [if_pos hstep.1]
          refine .inl (relOp_wp hstep.2 fun v w' ⟨hw, hv⟩ => ?_)
          subst hw
          rw [fill_put (l.take n) a0 u 0 i o hd hol]
          refine ih _ _ _ hf' (inv.set hi hin) (fun _ => ⟨hb, fun j hj hl => ?_⟩) (fun h => ?_)
          · by_cases hji : j = i
            · rw [hji, hupd]; exact hv
            · rw [hset, if_neg hji] at hl
              rw [hupn _ _ hji]
              exact hV j hj hl
          · rw [hset, if_neg (by omega), hlq] at h; cases h
    | true =>
      obtain ⟨hvq, hV⟩ := hV1 hlq
      have hiq : i ≠ q := fun h => by rw [h, hlq] at hiun'; cases hiun'
      have hip : i ∉ pre := fun h => by
        have := pre_listed hP0 inv hlq _ i rfl h
        rw [hiun'] at this
        cases this
      obtain ⟨hc, hstep⟩ := hfree hip hiq
      have hstep := hstep u w
      unfold wpOp
      simp only [ho]
      rw [if_pos hstep.1]
      refine .inl (relOp_wp hstep.2 fun v w' ⟨hw, hv⟩ => ?_)
      subst hw
      rw [fill_put (l.take n) a0 u 0 i o hd hol]
      refine ih _ _ _ hf' (inv.set hi hin) (fun h => ?_) (fun _ => ⟨by rw [hupn _ _ (by omega)]; exact hvq, fun j hj hjq hl hcj => ?_⟩)
      · rw [hset, if_neg (by omega), hlq] at h; cases h
      · by_cases hji : j = i
        · rw [hji, hupd]; exact hv
        · rw [hset, if_neg hji] at hl
          rw [hupn _ _ hji]
          exact hV j hj hjq hl hcj
def relWalkM (P : Program) (md : Region.Mode) (ops : Array Oper) (w0 : World) (pre : List Nat) (q : Nat) (fr : (Nat → Value) → Act) (fin : (Nat → Stay) → Prop) : List Oper → Nat → (Nat → Stay) → Prop
  | [], _, V => fin V
  | o :: l, k, V => ∃ s : Stay, ((k ∈ pre → ∀ (u : Nat → Value) (w : World), Below w0.heap.size w0 w → depsS md V u w o.after.toList →
        if Region.wanted o (yielded ops (fr u).tmps) = true then relOp P o (fr u) w (fun v w' => Below w.heap.size w w' ∧ s.p v w') else s.p undef w) ∧
      (k = q → ∀ (u : Nat → Value) (w : World), Below w0.heap.size w0 w → depsS md V u w o.after.toList → Region.wanted o (yielded ops (fr u).tmps) = true ∧ relOp P o (fr u) w (fun v w' => s.p v w')) ∧
      (k ∉ pre → k ≠ q → Const s ∧ ∀ (u : Nat → Value) (w : World), Region.wanted o (yielded ops (fr u).tmps) = true ∧ relOp P o (fr u) w (fun v w' => w' = w ∧ s.p v w'))) ∧ relWalkM P md ops w0 pre q fr fin l (k + 1) (updS V k s)
theorem depsS_back {V V' : Nat → Stay} {u : Nat → Value} {w : World} {k : Nat} : ∀ l : List Edge, (l.all fun e => !Region.binds md e || decide (e.on < k)) = true → (∀ j, j < k → V j = V' j) → depsS md V u w l → depsS md V' u w l
  | [], _, _, _ => trivial
  | e :: l, hb, he, h => by
    simp only [List.all_cons, Bool.and_eq_true] at hb
    refine ⟨fun hbd => ?_, depsS_back l hb.2 he h.2⟩
    have h1 := h.1 hbd
    have h2 : e.on < k := by simpa [hbd] using hb.1
    rw [← he _ h2]
    exact h1
theorem relAllM_of {ops : Array Oper} {w0 : World} {pre : List Nat} {q : Nat} {fr : (Nat → Value) → Act} {fin : (Nat → Stay) → Prop} : ∀ (l : List Oper) (k : Nat) (V : Nat → Stay), backL md l k = true → relWalkM P md ops w0 pre q fr fin l k V →
    ∃ V' : Nat → Stay, (∀ j, j < k → V' j = V j) ∧ relAllM P md ops w0 V' pre q fr l k ∧ fin V'
  | [], _, V, _, h => ⟨V, fun _ _ => rfl, trivial, h⟩
  | o :: l, k, V, hb, h => by
    obtain ⟨s, h1, h2⟩ := h
    simp only [backL, Bool.and_eq_true] at hb
    obtain ⟨V', he, ha, hf⟩ := relAllM_of l (k + 1) _ hb.2 h2
    have hE : ∀ j, j < k → V' j = V j := fun j hj => by rw [he j (by omega)]; unfold updS; rw [if_neg (by omega)]
    have hp : V' k = s := by rw [he k (by omega)]; unfold updS; rw [if_pos rfl]
    refine ⟨V', hE, ⟨⟨fun hk u w hbl hd => ?_, fun hk u w hbl hd => ?_, fun h3 h4 => ?_⟩, ha⟩, hf⟩
    · have h3 := h1.1 hk u w hbl (depsS_back _ hb.1 hE hd)
      rw [hp]
      exact h3
    · have h3 := h1.2.1 hk u w hbl (depsS_back _ hb.1 hE hd)
      rw [hp]
      exact h3
    · rw [hp]
      exact h1.2.2 h3 h4
/-- **THE THEOREM** -/
theorem wp_region_relm {id : Nat} {Q : Exit → Act → World → Prop} {a : Act} {w : World} {l : List Oper} (n q : Nat) (pre : List Nat) (hm : P.follows .mixedOrders = true) (hB : relB .any l n = true) (hL : backL .any (l.take n) 0 = true) (hq : q < n) (hP : preB .any l.toArray n q pre = true)
    (h : relWalkM P .any l.toArray w pre q (fun u => fillL a (l.take n) u 0) (fun V => ∀ (u : Nat → Value) (w' : World), (V q).p (u q) w' → (∀ j, j < n → j ≠ q → Const (V j) → (V j).p (u j) w') → wpList P l.toArray Q (l.drop n) (fillL a (l.take n) u 0) w') (l.take n) 0 (fun _ => Stay.any)) :
    (Code.region id l.toArray true).wp P Q a w := by
  obtain ⟨V, _, hall, hend⟩ := relAllM_of _ _ _ hL h
  refine wp_region_any hm ?_
  have inv0 : HeadInv .any l.toArray n (Array.replicate l.toArray.size false) :=
    ⟨by simp, fun j oj _ hl => (by rw [getD_replicate_false] at hl; cases hl), fun t _ ht => getD_in (by simpa using ht) (getD_replicate_false _ _)⟩
  have hn : n ≤ l.length := by
    simp only [relB, Bool.and_eq_true, Bool.or_eq_true, decide_eq_true_eq] at hB
    omega
  have h0 : unlisted n (Array.replicate l.toArray.size false) = n := by
    unfold unlisted
    rw [List.countP_eq_length.2]
    · simp
    · intro j _
      rw [getD_replicate_false]
      rfl
  have := wpAny_relm hB hq hP hall hend n _ (fun j => curU a (l.take n) j) { w with drawn := w.drawn + 1 } h0 inv0 (fun _ => ⟨⟨rfl, rfl, rfl, Nat.le_refl _, fun _ _ => rfl⟩, fun j _ hl => by rw [getD_replicate_false] at hl; cases hl⟩) (fun hl => by rw [getD_replicate_false] at hl; cases hl)
  rw [fill_cur a (l.take n) 0 _ (fun j => by rw [Nat.zero_add]), show n + (l.length - n) = l.toArray.size by simp; omega] at this
  exact this
section
variable {ops : Array Oper} {w0 : World} {pre : List Nat} {q : Nat} {fr : (Nat → Value) → Act} {fin : (Nat → Stay) → Prop} {o : Oper} {l : List Oper} {k : Nat} {V : Nat → Stay}
/-- before q: one known value -/
theorem relm_is {x : Value} (hk : k ≠ q) (hp : k ∈ pre)
    (h : ∀ (u : Nat → Value) (w : World), Below w0.heap.size w0 w → depsS md V u w o.after.toList → if Region.wanted o (yielded ops (fr u).tmps) = true then relOp P o (fr u) w (fun v w' => Below w.heap.size w w' ∧ v = x) else undef = x)
    (hl : relWalkM P md ops w0 pre q fr fin l (k + 1) (updS V k (Stay.is x))) : relWalkM P md ops w0 pre q fr fin (o :: l) k V :=
  ⟨Stay.is x, ⟨fun _ => h, fun e => absurd e hk, fun e => absurd hp e⟩, hl⟩
/-- before q: a property that stays -/
theorem relm_stay (s : Stay) (hk : k ≠ q) (hp : k ∈ pre)
    (h : ∀ (u : Nat → Value) (w : World), Below w0.heap.size w0 w → depsS md V u w o.after.toList → if Region.wanted o (yielded ops (fr u).tmps) = true then relOp P o (fr u) w (fun v w' => Below w.heap.size w w' ∧ s.p v w') else s.p undef w)
    (hl : relWalkM P md ops w0 pre q fr fin l (k + 1) (updS V k s)) : relWalkM P md ops w0 pre q fr fin (o :: l) k V :=
  ⟨s, ⟨fun _ => h, fun e => absurd e hk, fun e => absurd hp e⟩, hl⟩
/-- whenever it runs -/
theorem relm_free {x : Value} (hk : k ≠ q) (hp : k ∉ pre)
    (h : ∀ (u : Nat → Value) (w : World), Region.wanted o (yielded ops (fr u).tmps) = true ∧ relOp P o (fr u) w (fun v w' => w' = w ∧ v = x))
    (hl : relWalkM P md ops w0 pre q fr fin l (k + 1) (updS V k (Stay.is x))) : relWalkM P md ops w0 pre q fr fin (o :: l) k V :=
  ⟨Stay.is x, ⟨fun e => absurd e hp, fun e => absurd e hk, fun _ _ => ⟨Const.is x, h⟩⟩, hl⟩
/-- what writes -/
theorem relm_write (s : Stay) (hp : q ∉ pre)
    (h : ∀ (u : Nat → Value) (w : World), Below w0.heap.size w0 w → depsS md V u w o.after.toList → Region.wanted o (yielded ops (fr u).tmps) = true ∧ relOp P o (fr u) w (fun v w' => s.p v w'))
    (hl : relWalkM P md ops w0 pre q fr fin l (q + 1) (updS V q s)) : relWalkM P md ops w0 pre q fr fin (o :: l) q V :=
  ⟨s, ⟨fun e => absurd e hp, fun _ => h, fun _ e => absurd rfl e⟩, hl⟩
end
end
end Go.Proofs.Ytpjdmjmgkdgfnaa
