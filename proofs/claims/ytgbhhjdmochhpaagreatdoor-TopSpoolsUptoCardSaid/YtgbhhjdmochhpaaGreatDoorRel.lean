/-
  A region that draws its order, walked operation by operation instead of order by order: of each operation's value a property is named that stays true while nothing old turns; each operation is shown to establish its own from those that it waits for. Conditions: none. By an AI agent.
-/
import Derived.Test.YtgbhhjdmochhpaaGreatDoorBase
import Derived.StillTailTactics
namespace Go.Proofs.YtgbhhjdmochhpaaGreatDoor
open Go Go.RowKit

section
variable {P : Program} {md : Region.Mode}

/-- what one operation yields, and the world that it leaves -/
def relUpon (P : Program) (R : Value → World → Prop) : Result Next → Prop
  | .ok (.value u) w' => R u w'
  | .ok .skip w' => R undef w'
  | .ok (.enter f args) w' => Calls P f args w' fun e w'' => ∃ u, e = .returned u ∧ R u w''
  | _ => False
def relOp (P : Program) (o : Oper) (a : Act) (w : World) (R : Value → World → Prop) : Prop := relUpon P R ((execOp a.eval o).run P w)

attribute [go_sem] relOp relUpon
theorem relOp_wp {o : Oper} {a : Act} {w : World} {R : Value → World → Prop} {K : Act → World → Prop} {Q : Exit → Act → World → Prop} (h : relOp P o a w R) (hK : ∀ u w', R u w' → K (a.put o.dst u) w') : o.wp P a w K Q := by
  unfold relOp at h
  unfold Oper.wp
  generalize (execOp a.eval o).run P w = r at *
  cases r with
  | ok n w' =>
    cases n with
    | value u => exact hK _ _ h
    | skip => exact hK _ _ h
    | enter f args => exact Calls.mono h fun e w'' ⟨u, he, hr⟩ => by subst he; exact hK _ _ hr
    | _ => exact h.elim
  | halt x w' => exact h.elim

/-- the frame in which the operations' temporaries hold u 0, u 1, .. -/
def fillL : Act → List Oper → (Nat → Value) → Nat → Act
  | a, [], _, _ => a
  | a, o :: l, u, k => fillL (a.put o.dst (u k)) l u (k + 1)

def upd (u : Nat → Value) (i : Nat) (v : Value) : Nat → Value := fun j => if j = i then v else u j

theorem put_put (a : Act) (d : Option Tmp) (u v : Value) : (a.put d u).put d v = a.put d v := by
  cases d with
  | none => rfl
  | some d => simp [Act.put]
theorem put_own (a : Act) (d : Tmp) : a.put (some d) (a.tmps.getD d undef) = a := by
  obtain ⟨t, ds⟩ := a
  simp only [Act.put, Act.mk.injEq, and_true]
  apply Array.ext_getElem?
  intro i
  rw [Array.getElem?_setIfInBounds]
  split
  · rename_i e
    subst e
    split
    · rename_i h; simp [h]
    · rename_i h; simp at h; simp [h]
  · rfl

theorem fill_base {d : Option Tmp} {v : Value} : ∀ (l : List Oper) (a : Act) (u : Nat → Value) (k : Nat), (∀ o ∈ l, ∀ t, d = some t → o.dst ≠ some t) → (fillL a l u k).put d v = fillL (a.put d v) l u k
  | [], _, _, _, _ => rfl
  | o :: l, a, u, k, h => by
    unfold fillL
    rw [fill_base l _ u (k + 1) (fun o' ho' => h o' (by simp [ho']))]
    rw [Act.put_comm a (x := o.dst) (y := d) (u k) v (fun t ht hd => h o (by simp) t hd ht)]
theorem fill_congr : ∀ (l : List Oper) (a : Act) (u u' : Nat → Value) (k : Nat), (∀ j, k ≤ j → u j = u' j) → fillL a l u k = fillL a l u' k
  | [], _, _, _, _, _ => rfl
  | o :: l, a, u, u', k, h => by
    unfold fillL
    rw [h k (Nat.le_refl _)]
    exact fill_congr l _ u u' (k + 1) (fun j hj => h j (by omega))

/-- no two of them write one temporary -/
def dstsB : List Oper → Bool
  | [] => true
  | o :: l => (match o.dst with | none => true | some d => l.all fun o' => decide (o'.dst ≠ some d)) && dstsB l

theorem fill_put {v : Value} : ∀ (l : List Oper) (a : Act) (u : Nat → Value) (k i : Nat) (o : Oper), dstsB l = true → l[i]? = some o → (fillL a l u k).put o.dst v = fillL a l (upd u (k + i) v) k
  | [], _, _, _, _, _, _, h => by simp at h
  | o' :: l, a, u, k, 0, o, hd, h => by
    obtain rfl : o' = o := by simpa using h
    simp only [dstsB, Bool.and_eq_true] at hd
    unfold fillL
    rw [fill_base l _ u (k + 1) (fun o ho t ht => by
      have h1 := hd.1
      rw [ht] at h1
      simpa using List.all_eq_true.1 h1 o ho), put_put]
    simp only [Nat.add_zero]
    rw [show upd u k v k = v by simp [upd]]
    exact fill_congr l _ _ _ (k + 1) (fun j hj => by unfold upd; rw [if_neg (by omega)])
  | o' :: l, a, u, k, i + 1, o, hd, h => by
    simp only [dstsB, Bool.and_eq_true] at hd
    unfold fillL
    rw [fill_put l _ u (k + 1) i o hd.2 (by simpa using h)]
    rw [show upd u (k + (i + 1)) v k = u k by unfold upd; rw [if_neg (by omega)]]
    rw [show k + 1 + i = k + (i + 1) by omega]

def curU (a : Act) : List Oper → Nat → Value
  | [], _ => undef
  | o :: _, 0 => match o.dst with | some d => a.tmps.getD d undef | none => undef
  | _ :: l, k + 1 => curU a l k
theorem fill_cur (a : Act) : ∀ (l : List Oper) (k : Nat) (u : Nat → Value), (∀ j, u (k + j) = curU a l j) → fillL a l u k = a
  | [], _, _, _ => rfl
  | o :: l, k, u, h => by
    unfold fillL
    have h0 := h 0
    simp only [Nat.add_zero, curU] at h0
    have e : a.put o.dst (u k) = a := by
      rw [h0]
      cases o.dst with
      | none => rfl
      | some d => exact put_own a d
    rw [e]
    exact fill_cur a l (k + 1) u (fun j => by have := h (j + 1); rw [show k + 1 + j = k + (j + 1) by omega]; exact this)

/-- what an operation waits for holds -/
def depsV (md : Region.Mode) (V : Nat → Value → World → Prop) (u : Nat → Value) (w : World) : List Edge → Prop
  | [] => True
  | e :: l => (Region.binds md e = true → V e.on (u e.on) w) ∧ depsV md V u w l

theorem depsV_of {V : Nat → Value → World → Prop} {u : Nat → Value} {w : World} : ∀ (l : List Edge), (∀ e ∈ l, Region.binds md e = true → V e.on (u e.on) w) → depsV md V u w l
  | [], _ => trivial
  | e :: l, h => ⟨h e (by simp), depsV_of l (fun e he => h e (by simp [he]))⟩

/-- each operation of the list establishes its own property -/
def relAll (P : Program) (md : Region.Mode) (ops : Array Oper) (w0 : World) (V : Nat → Value → World → Prop) (fr : (Nat → Value) → Act) : List Oper → Nat → Prop
  | [], _ => True
  | o :: l, k => (∀ (u : Nat → Value) (w : World), Below w0.heap.size w0 w → depsV md V u w o.after.toList →
      if Region.wanted o (yielded ops (fr u).tmps) = true then relOp P o (fr u) w (fun v w' => Below w.heap.size w w' ∧ V k v w') else V k undef w) ∧ relAll P md ops w0 V fr l (k + 1)
theorem relAll_at {ops : Array Oper} {w0 : World} {V : Nat → Value → World → Prop} {fr : (Nat → Value) → Act} : ∀ (l : List Oper) (k i : Nat) (o : Oper), relAll P md ops w0 V fr l k → l[i]? = some o →
    ∀ (u : Nat → Value) (w : World), Below w0.heap.size w0 w → depsV md V u w o.after.toList →
      if Region.wanted o (yielded ops (fr u).tmps) = true then relOp P o (fr u) w (fun v w' => Below w.heap.size w w' ∧ V (k + i) v w') else V (k + i) undef w
  | [], _, _, _, _, h => by simp at h
  | o' :: l, k, 0, o, hr, h => by
    obtain rfl : o' = o := by simpa using h
    exact hr.1
  | o' :: l, k, i + 1, o, hr, h => by
    have := relAll_at l (k + 1) i o hr.2 (by simpa using h)
    rw [show k + 1 + i = k + (i + 1) by omega] at this
    exact this

def unlisted (n : Nat) (listed : Array Bool) : Nat := (List.range n).countP fun j => !listed.getD j false
theorem countP_one {p q : Nat → Bool} {i : Nat} : ∀ (l : List Nat), l.Nodup → i ∈ l → p i = true → q i = false → (∀ j, j ≠ i → q j = p j) → l.countP p = l.countP q + 1
  | [], _, h, _, _, _ => by cases h
  | x :: l, hn, h, hp, hq, he => by
    rw [List.nodup_cons] at hn
    by_cases hx : x = i
    · subst hx
      have : l.countP p = l.countP q := by
        apply List.countP_congr
        intro y hy
        rw [he y (fun e => hn.1 (e ▸ hy))]
      rw [List.countP_cons_of_pos hp, List.countP_cons_of_neg (by simp [hq]), this]
    · have hi : i ∈ l := by
        rcases List.mem_cons.1 h with h | h
        · exact absurd h.symm hx
        · exact h
      have ih := countP_one l hn.2 hi hp hq he
      rw [List.countP_cons, List.countP_cons, he x hx, ih]
      omega
theorem unlisted_set {n i : Nat} {listed : Array Bool} (hi : i < n) (hs : i < listed.size) (h : listed.getD i false = false) : unlisted n listed = unlisted n (listed.setIfInBounds i true) + 1 := by
  unfold unlisted
  refine countP_one (i := i) _ List.nodup_range (List.mem_range.2 hi) (by simp [h]) (by simp [hs]) (fun j hj => ?_)
  rw [getD_set_ne false (by omega)]

def headsDone (n s : Nat) : Array Bool := (List.replicate n true ++ List.replicate (s - n) false).toArray

def backB (md : Region.Mode) (ops : Array Oper) (n : Nat) : Bool :=
  (List.range n).all fun i => match ops[i]? with | some o => o.after.toList.all fun e => !Region.binds md e || decide (e.on < i) | none => true

def relB (md : Region.Mode) (l : List Oper) (n : Nat) : Bool :=
  (decide (n = l.length) || (decide (n < l.length) && Region.sinkB md l.toArray n && Region.chainB md l.toArray n)) && backB md l.toArray n && Region.seqB md l.toArray (l.length - n) n (headsDone n l.length) && dstsB (l.take n)

theorem some_ready {ops : Array Oper} {n : Nat} {listed : Array Bool} (hb : backB md ops n = true) (hn : n ≤ ops.size) : ∀ (d i : Nat), i = d → i < n → listed.getD i false = false → i < listed.size → (∀ j, j < n → j < listed.size) → Region.ready md ops listed ≠ [] := by
  intro d
  induction d using Nat.strongRecOn with
  | _ d ih =>
    intro i hd hi hun hs hss
    subst hd
    by_cases hr : i ∈ Region.ready md ops listed
    · intro h; rw [h] at hr; cases hr
    · have hlt : i < ops.size := by omega
      have ho : ops[i]? = some ops[i] := Array.getElem?_eq_getElem hlt
      have hb1 := List.all_eq_true.1 hb i (List.mem_range.2 hi)
      simp only [ho] at hb1
      have : ∃ e ∈ ops[i].after, Region.binds md e = true ∧ listed.getD e.on false = false := by
        apply Classical.byContradiction
        intro hno
        apply hr
        rw [mem_ready]
        refine ⟨getD_in hs hun, ops[i], ho, fun e he hbd => ?_⟩
        cases hl : listed.getD e.on false with
        | true => rfl
        | false => exact absurd ⟨e, he, hbd, hl⟩ hno
      obtain ⟨e, he, hbd, hl⟩ := this
      have h2 := List.all_eq_true.1 hb1 e (by simpa using he)
      simp only [hbd, Bool.not_true, Bool.false_or, decide_eq_true_eq] at h2
      exact ih e.on h2 e.on rfl (by omega) hl (hss _ (by omega)) hss

theorem wpAny_rel {l : List Oper} {n : Nat} {a0 : Act} {w0 : World} {V : Nat → Value → World → Prop} {Q : Exit → Act → World → Prop} (hB : relB md l n = true)
    (hmono : ∀ i v w w', Below w.heap.size w w' → V i v w → V i v w')
    (hall : relAll P md l.toArray w0 V (fun u => fillL a0 (l.take n) u 0) (l.take n) 0)
    (hend : ∀ (u : Nat → Value) (w : World), Below w0.heap.size w0 w → (∀ j, j < n → V j (u j) w) → wpList P l.toArray Q (l.drop n) (fillL a0 (l.take n) u 0) w) :
    ∀ (f : Nat) (listed : Array Bool) (u : Nat → Value) (w : World), unlisted n listed = f → HeadInv md l.toArray n listed → Below w0.heap.size w0 w → (∀ j, j < n → listed.getD j false = true → V j (u j) w) →
      wpAny P md l.toArray Q (f + (l.length - n)) listed (fillL a0 (l.take n) u 0) w := by
  simp only [relB, Bool.and_eq_true, Bool.or_eq_true, decide_eq_true_eq] at hB
  obtain ⟨⟨⟨hn, hback⟩, hseq⟩, hd⟩ := hB
  have hnl : n ≤ l.length := by omega
  intro f
  induction f with
  | zero =>
    intro listed u w hf inv hb hV
    have hdone : ∀ j, j < n → listed.getD j false = true := by
      intro j hj
      have h0 : (List.range n).countP (fun j => !listed.getD j false) = 0 := hf
      rw [List.countP_eq_zero] at h0
      simpa using h0 j (List.mem_range.2 hj)
    have hlist : listed = headsDone n l.length := by
      apply Array.ext
      · simp [headsDone, inv.size]; omega
      · intro i h1 h2
        have hsz : listed.size = l.length := by rw [inv.size]; simp
        have h3 : i < (List.replicate n true ++ List.replicate (l.length - n) false).length := by simpa [headsDone] using h2
        show listed[i] = (List.replicate n true ++ List.replicate (l.length - n) false)[i]'h3
        by_cases hi : i < n
        · rw [List.getElem_append_left (by simpa using hi), List.getElem_replicate]
          have := hdone i hi
          simpa [h1] using this
        · rw [List.getElem_append_right (by simpa using hi), List.getElem_replicate]
          have := inv.tail i (by omega) (by simp; omega)
          simpa [h1] using this
    rw [Nat.zero_add]
    have := wpAny_of_seq (P := P) (ops := l.toArray) (md := md) (Q' := Q) (l.drop n) n listed (fillL a0 (l.take n) u 0) w (fun j => by simp [List.getElem?_drop])
      (by rw [List.length_drop, hlist]; exact hseq) (hend u w hb (fun j hj => hV j hj (hdone j hj)))
    rwa [List.length_drop] at this
  | succ f ih =>
    intro listed u w hf inv hb hV
    have hsz : listed.size = l.length := by rw [inv.size]; simp
    obtain ⟨i0, hi0, hun0⟩ : ∃ i, i < n ∧ listed.getD i false = false := by
      apply Classical.byContradiction
      intro hno
      have : unlisted n listed = 0 := by
        unfold unlisted
        rw [List.countP_eq_zero]
        intro j hj
        have : listed.getD j false = true := by
          cases h : listed.getD j false with
          | true => rfl
          | false => exact absurd ⟨j, List.mem_range.1 hj, h⟩ hno
        rw [this]
        decide
      omega
    rw [show f + 1 + (l.length - n) = (f + (l.length - n)) + 1 by omega]
    refine ⟨fun h => absurd h (some_ready hback (by simpa using hnl) i0 i0 rfl hi0 hun0 (by omega) (fun j hj => by omega)), fun i hi => ?_⟩
    obtain ⟨hiun, o, ho, hdeps⟩ := mem_ready.1 hi
    have hilt : i < l.length := by have := (Array.getElem?_eq_some_iff.1 ho).1; simpa using this
    have hin : i < n := by
      rcases hn with hn | ⟨⟨hn, hs⟩, hc⟩
      · omega
      · exact (Nat.lt_or_ge i n).resolve_right fun h => tail_waits hs hc (by simpa using hn) inv _ i0 rfl hi0 (getD_in (by omega) hun0) i h hi
    have hol : (l.take n)[i]? = some o := by
      rw [List.getElem?_take_of_lt hin]; simpa using ho
    have hdv : depsV md V u w o.after.toList := depsV_of _ fun e he hbd => by
      have hbk := List.all_eq_true.1 hback i (List.mem_range.2 hin)
      simp only [ho] at hbk
      have h2 := List.all_eq_true.1 hbk e he
      simp only [hbd, Bool.not_true, Bool.false_or, decide_eq_true_eq] at h2
      exact hV e.on (by omega) (hdeps e (by simpa using he) hbd)
    have hstep := relAll_at _ 0 i o hall hol u w hb hdv
    simp only [Nat.zero_add] at hstep
    have hgo : ∀ v w', Below w.heap.size w w' → V i v w' → wpAny P md l.toArray Q (f + (l.length - n)) (listed.setIfInBounds i true) ((fillL a0 (l.take n) u 0).put o.dst v) w' := by
      intro v w' hb' hv
      rw [fill_put (l.take n) a0 u 0 i o hd hol]
      refine ih _ _ _ ?_ (inv.set hi hin) (hb.trans (hb'.mono hb.size)) ?_
      · have := unlisted_set hin (by omega : i < listed.size) (getD_both hiun)
        omega
      · intro j hj hl
        unfold upd
        by_cases hji : j = 0 + i
        · rw [if_pos hji]
          have : j = i := by omega
          subst this
          exact hv
        · rw [if_neg hji]
          rw [getD_set_ne false (by omega)] at hl
          exact hmono _ _ _ _ hb' (hV j hj hl)
    unfold wpOp
    simp only [ho]
    split
    · rename_i hw
      rw [if_pos hw] at hstep
      exact .inl (relOp_wp hstep fun v w' ⟨h1, h2⟩ => hgo v w' h1 h2)
    · rename_i hw
      rw [if_neg hw] at hstep
      exact hgo _ _ (Below.refl _ _) hstep

/-- **THE THEOREM** -/
theorem wp_region_rel {id : Nat} {Q : Exit → Act → World → Prop} {a : Act} {w : World} {l : List Oper} (n : Nat) (V : Nat → Value → World → Prop) (hm : P.follows .mixedOrders = true) (hB : relB .any l n = true)
    (hmono : ∀ i v w w', Below w.heap.size w w' → V i v w → V i v w')
    (hall : relAll P .any l.toArray w V (fun u => fillL a (l.take n) u 0) (l.take n) 0)
    (hend : ∀ (u : Nat → Value) (w' : World), Below w.heap.size w w' → (∀ j, j < n → V j (u j) w') → wpList P l.toArray Q (l.drop n) (fillL a (l.take n) u 0) w') : (Code.region id l.toArray true).wp P Q a w := by
  refine wp_region_any hm ?_
  have inv0 : HeadInv .any l.toArray n (Array.replicate l.toArray.size false) :=
    ⟨by simp, fun j oj _ hl => (by rw [getD_replicate_false] at hl; cases hl), fun t _ ht => getD_in (by simpa using ht) (getD_replicate_false _ _)⟩
  have hn : n ≤ l.length := by
    simp only [relB, Bool.and_eq_true, Bool.or_eq_true, decide_eq_true_eq] at hB
    omega
  have h0 : unlisted n (Array.replicate l.toArray.size false) = n := by
    unfold unlisted
    rw [List.countP_eq_length.2]
    · simp
    · intro j _
      rw [getD_replicate_false]
      rfl
  have := wpAny_rel hB hmono hall hend n _ (fun j => curU a (l.take n) j) { w with drawn := w.drawn + 1 } h0 inv0 ⟨rfl, rfl, rfl, Nat.le_refl _, fun _ _ => rfl⟩ (fun j _ hl => by rw [getD_replicate_false] at hl; cases hl)
  rw [fill_cur a (l.take n) 0 _ (fun j => by rw [Nat.zero_add]), show n + (l.length - n) = l.toArray.size by simp; omega] at this
  exact this

/-- a new block, its cells zeros -/
def NewCells (B : Nat) (cs : Array Value) (t : TypeId) (v : Value) (w : World) : Prop := ∃ b : Nat, v = .pointer (some ⟨b, 0, none⟩) ∧ B ≤ b ∧ w.heap[b]? = some (.cells cs t)
theorem NewCells.mono {B : Nat} {cs : Array Value} {t : TypeId} {v : Value} {w w' : World} (h : NewCells B cs t v w) (hb : Below w.heap.size w w') : NewCells B cs t v w' := by
  obtain ⟨b, h1, h2, h3⟩ := h
  exact ⟨b, h1, h2, by rw [hb.block b (Array.getElem?_eq_some_iff.1 h3).1]; exact h3⟩

theorem new3 {w : World} {b : Nat} {x y z : Value} {t : TypeId} (h : w.heap[b]? = some (.cells #[x, y, z] t)) :
    w.cell? ⟨b, 0, none⟩ = some x ∧ w.cell? ⟨b, 1, none⟩ = some y ∧ w.cell? ⟨b, 2, none⟩ = some z ∧ ∀ o, w.frozen? ⟨b, o, none⟩ = false := by
  refine ⟨?_, ?_, ?_, ?_⟩ <;> simp [World.cell?, World.frozen?, h]
end
end Go.Proofs.YtgbhhjdmochhpaaGreatDoor
