/-
  A region that draws its order, in which variables are made and each is stored to once while calls may still follow: each operation is either one that yields one known value, or makes a variable, or stores to one; one statement an operation serves every order. Conditions: none. By an AI agent.
-/
import Derived.Test.YtcfohnhieajhnaaDoorInv
namespace Go.Proofs.YtcfohnhieajhnaaDoor
open Go Go.RowKit

/-- what the operations of such a region are: kind 0: yields 'val'; 1: makes a variable (cells 'zs', type 'ty', stored to by operation 'st', which leaves 'res'); 2: stores -/
structure RS where
  val : Nat → Value
  kind : Nat → Nat
  zs : Nat → Array Value
  ty : Nat → TypeId
  st : Nat → Nat
  res : Nat → Array Value

/-- a block's cells have been replaced, and nothing else -/
structure Stored (w w' : World) (b : Nat) (cs : Array Value) (t : TypeId) : Prop where
  os : w'.os = w.os
  tape : w'.tape = w.tape
  output : w'.output = w.output
  size : w'.heap.size = w.heap.size
  other : ∀ k, k ≠ b → w'.heap[k]? = w.heap[k]?
  here : w'.heap[b]? = some (.cells cs t)

theorem Stored.refl {w : World} {b : Nat} {cs : Array Value} {t : TypeId} (h : w.heap[b]? = some (.cells cs t)) : Stored w w b cs t := ⟨rfl, rfl, rfl, rfl, fun _ _ => rfl, h⟩
theorem Stored.set {w w' : World} {b : Nat} {cs : Array Value} {t : TypeId} (h : Stored w w' b cs t) (i : Nat) (v : Value) : Stored w (w'.setCell ⟨b, i, none⟩ v) b (cs.setIfInBounds i v) t :=
  ⟨h.os, h.tape, h.output, by rw [World.size_setCell]; exact h.size, fun k hk => by rw [heap_setCell_other _ _ _ _ hk]; exact h.other k hk, heap_setCell_same w' b i cs t v h.here⟩
theorem Stored.three {w : World} {b : Nat} {x y z : Value} {t : TypeId} (h : w.heap[b]? = some (.cells #[x, y, z] t)) (p q r : Value) : Stored w (((w.setCell ⟨b, 0, none⟩ p).setCell ⟨b, 1, none⟩ q).setCell ⟨b, 2, none⟩ r) b #[p, q, r] t :=
  (((Stored.refl h).set 0 p).set 1 q).set 2 r

section
variable {P : Program} {md : Region.Mode}

def RS.V (S : RS) (w0 : World) (i : Nat) (v : Value) (w : World) : Prop :=
  match S.kind i with
  | 0 => v = S.val i
  | 1 => ∃ b : Nat, v = .pointer (some ⟨b, 0, none⟩) ∧ w0.heap.size ≤ b ∧ b < w.heap.size
  | _ => True

structure RS.I (S : RS) (n : Nat) (w0 : World) (d : Nat → Bool) (u : Nat → Value) (w : World) : Prop where
  below : Below w0.heap.size w0 w
  val : ∀ i, i < n → S.kind i = 0 → d i = true → u i = S.val i
  var : ∀ i, i < n → S.kind i = 1 → d i = true → ∃ b : Nat, u i = .pointer (some ⟨b, 0, none⟩) ∧ w0.heap.size ≤ b ∧ w.heap[b]? = some (.cells (if d (S.st i) = true then S.res i else S.zs i) (S.ty i))
  apart : ∀ i j, i < n → j < n → i ≠ j → S.kind i = 1 → S.kind j = 1 → d i = true → d j = true → u i ≠ u j
  made : ∀ i, i < n → S.kind i = 1 → d (S.st i) = true → d i = true
  out : ∀ j, n ≤ j → d j = false

/-- the table is in order -/
def RS.okB (S : RS) (n : Nat) : Bool := (List.range n).all fun i => S.kind i != 1 || (S.kind (S.st i) == 2 || decide (n ≤ S.st i)) && (List.range n).all fun j => S.kind j != 1 || S.st i != S.st j || i == j || decide (n ≤ S.st i)

theorem RS.okB_kind {S : RS} {n i : Nat} (h : S.okB n = true) (hi : i < n) (hk : S.kind i = 1) : S.kind (S.st i) = 2 ∨ n ≤ S.st i := by
  have := List.all_eq_true.1 h i (List.mem_range.2 hi)
  simp [hk] at this
  exact this.1
theorem RS.okB_inj {S : RS} {n i j : Nat} (h : S.okB n = true) (hi : i < n) (hj : j < n) (hk : S.kind i = 1) (hkj : S.kind j = 1) (he : S.st i = S.st j) : i = j ∨ n ≤ S.st i := by
  have := List.all_eq_true.1 h i (List.mem_range.2 hi)
  simp [hk] at this
  have h2 := this.2 j hj
  simp [hkj, he] at h2
  rw [he]
  exact h2

theorem RS.I.step_val {S : RS} {n : Nat} {w0 : World} {d : Nat → Bool} {u : Nat → Value} {w w' : World} {i : Nat} (hok : S.okB n = true) (h : S.I n w0 d u w) (hb : Below w.heap.size w w') (hi : i < n) (hk : S.kind i = 0) :
    S.I n w0 (setB d i) (upd u i (S.val i)) w' := by
  have hne : ∀ j, j < n → S.kind j = 1 → S.st j ≠ i := fun j hj hkj e => by
    rcases RS.okB_kind hok hj hkj with h2 | h2
    · rw [e, hk] at h2; cases h2
    · omega
  refine ⟨h.below.trans (hb.mono h.below.size), fun j hj hkj hd => ?_, fun j hj hkj hd => ?_, fun a b ha hb' hab hka hkb hda hdb => ?_, fun j hj hkj hd => ?_, fun j hj => ?_⟩
  · unfold upd
    by_cases e : j = i
    · rw [if_pos e, e]
    · rw [if_neg e]; exact h.val j hj hkj (by simpa [setB, e] using hd)
  · have e : j ≠ i := fun e => by rw [e, hk] at hkj; cases hkj
    obtain ⟨b, h1, h2, h3⟩ := h.var j hj hkj (by simpa [setB, e] using hd)
    refine ⟨b, by unfold upd; rw [if_neg e]; exact h1, h2, ?_⟩
    rw [hb.block b (Array.getElem?_eq_some_iff.1 h3).1, h3]
    simp [setB, hne j hj hkj]
  · have ea : a ≠ i := fun e => by rw [e, hk] at hka; cases hka
    have eb : b ≠ i := fun e => by rw [e, hk] at hkb; cases hkb
    unfold upd; rw [if_neg ea, if_neg eb]
    exact h.apart a b ha hb' hab hka hkb (by simpa [setB, ea] using hda) (by simpa [setB, eb] using hdb)
  · have e : j ≠ i := fun e => by rw [e, hk] at hkj; cases hkj
    have := h.made j hj hkj (by simpa [setB, hne j hj hkj] using hd)
    simp [setB, this]
  · have : j ≠ i := by omega
    simp [setB, this, h.out j hj]

theorem RS.I.step_var {S : RS} {n : Nat} {w0 : World} {d : Nat → Bool} {u : Nat → Value} {w : World} {i : Nat} (hok : S.okB n = true) (h : S.I n w0 d u w) (hi : i < n) (hk : S.kind i = 1) (hdi : d i = false) :
    S.I n w0 (setB d i) (upd u i (.pointer (some ⟨w.heap.size, 0, none⟩))) (w.alloc (.cells (S.zs i) (S.ty i))) := by
  have hne : ∀ j, j < n → S.kind j = 1 → S.st j ≠ i := fun j hj hkj e => by
    rcases RS.okB_kind hok hj hkj with h2 | h2
    · rw [e, hk] at h2; cases h2
    · omega
  have hsz : ∀ j, j < n → S.kind j = 1 → d j = true → u j ≠ .pointer (some ⟨w.heap.size, 0, none⟩) := fun j hj hkj hd e => by
    obtain ⟨b, h1, h2, h3⟩ := h.var j hj hkj hd
    rw [h1] at e
    simp at e
    have := (Array.getElem?_eq_some_iff.1 h3).1
    omega
  refine ⟨h.below.alloc h.below.size _, fun j hj hkj hd => ?_, fun j hj hkj hd => ?_, fun a b ha hb' hab hka hkb hda hdb => ?_, fun j hj hkj hd => ?_, fun j hj => ?_⟩
  · have e : j ≠ i := fun e => by rw [e, hk] at hkj; cases hkj
    unfold upd; rw [if_neg e]; exact h.val j hj hkj (by simpa [setB, e] using hd)
  · by_cases e : j = i
    · subst e
      have h0 : d (S.st j) = false := by
        cases hs : d (S.st j) with
        | false => rfl
        | true => rw [h.made j hj hkj hs] at hdi; cases hdi
      refine ⟨w.heap.size, by unfold upd; rw [if_pos rfl], h.below.size, ?_⟩
      rw [show (if setB d j (S.st j) = true then S.res j else S.zs j) = S.zs j by simp [setB, hne j hj hkj, h0]]
      exact (MapKept.heap_alloc w _).1
    · obtain ⟨b, h1, h2, h3⟩ := h.var j hj hkj (by simpa [setB, e] using hd)
      refine ⟨b, by unfold upd; rw [if_neg e]; exact h1, h2, ?_⟩
      rw [show (w.alloc (.cells (S.zs i) (S.ty i))).heap[b]? = w.heap[b]? from ((Below.refl w.heap.size w).alloc (Nat.le_refl _) _).block b (Array.getElem?_eq_some_iff.1 h3).1, h3]
      simp [setB, hne j hj hkj]
  · unfold upd
    by_cases ea : a = i
    · have eb : b ≠ i := fun e => hab (ea.trans e.symm)
      rw [if_pos ea, if_neg eb]
      exact fun e => hsz b hb' hkb (by simpa [setB, eb] using hdb) e.symm
    · rw [if_neg ea]
      by_cases eb : b = i
      · rw [if_pos eb]
        exact hsz a ha hka (by simpa [setB, ea] using hda)
      · rw [if_neg eb]
        exact h.apart a b ha hb' hab hka hkb (by simpa [setB, ea] using hda) (by simpa [setB, eb] using hdb)
  · have := h.made j hj hkj (by simpa [setB, hne j hj hkj] using hd)
    simp [setB, this]
  · have : j ≠ i := by omega
    simp [setB, this, h.out j hj]

theorem RS.I.step_sto {S : RS} {n : Nat} {w0 : World} {d : Nat → Bool} {u : Nat → Value} {w w' : World} {j b : Nat} {v : Value} (hok : S.okB n = true) (h : S.I n w0 d u w) (hj : j < n) (hk : S.kind j = 1) (hd : d j = true) (hst : S.st j < n)
    (hu : u j = .pointer (some ⟨b, 0, none⟩)) (hs : Stored w w' b (S.res j) (S.ty j)) :
    S.I n w0 (setB d (S.st j)) (upd u (S.st j) v) w' := by
  obtain ⟨b', h1, h2, h3⟩ := h.var j hj hk hd
  rw [h1] at hu
  obtain rfl : b' = b := by simpa using hu
  have hks : S.kind (S.st j) = 2 := (RS.okB_kind hok hj hk).resolve_right (by omega)
  have hki : ∀ i, S.kind i ≠ 2 → i ≠ S.st j := fun i hi e => hi (by rw [e, hks])
  refine ⟨⟨by rw [hs.os]; exact h.below.os, by rw [hs.tape]; exact h.below.tape, by rw [hs.output]; exact h.below.output, by rw [hs.size]; exact h.below.size, fun k hkb => ?_⟩, fun i hi hki0 hdi => ?_, fun i hi hki1 hdi => ?_, fun a c ha hc hac hka hkc hda hdc => ?_, fun i hi hki1 hdi => ?_, fun i hi => ?_⟩
  · rw [hs.other k (by omega)]; exact h.below.block k hkb
  · have e := hki i (by omega)
    unfold upd; rw [if_neg e]; exact h.val i hi hki0 (by simpa [setB, e] using hdi)
  · have e := hki i (by omega)
    obtain ⟨c, g1, g2, g3⟩ := h.var i hi hki1 (by simpa [setB, e] using hdi)
    refine ⟨c, by unfold upd; rw [if_neg e]; exact g1, g2, ?_⟩
    by_cases hij : i = j
    · subst hij
      rw [h1] at g1
      obtain rfl : b' = c := by simpa using g1
      rw [hs.here]; simp [setB]
    · have hcb : c ≠ b' := fun e' => by
        subst e'
        exact h.apart i j hi hj hij hki1 hk (by simpa [setB, e] using hdi) hd (g1.trans h1.symm)
      have hss : S.st i ≠ S.st j := fun e' => by
        rcases RS.okB_inj hok hi hj hki1 hk e' with h5 | h5
        · exact hij h5
        · omega
      rw [hs.other c hcb, g3]; simp [setB, hss]
  · have ea := hki a (by omega)
    have ec := hki c (by omega)
    unfold upd; rw [if_neg ea, if_neg ec]
    exact h.apart a c ha hc hac hka hkc (by simpa [setB, ea] using hda) (by simpa [setB, ec] using hdc)
  · have e := hki i (by omega)
    by_cases hs2 : S.st i = S.st j
    · rcases RS.okB_inj hok hi hj hki1 hk hs2 with h5 | h5
      · subst h5; simp [setB, hd]
      · omega
    · have := h.made i hi hki1 (by simpa [setB, hs2] using hdi)
      simp [setB, this]
  · have : i ≠ S.st j := by omega
    simp [setB, this, h.out i hi]

theorem RS.I.deps {S : RS} {n : Nat} {w0 : World} {d : Nat → Bool} {u : Nat → Value} {w : World} (h : S.I n w0 d u w) : ∀ l : List Edge, (∀ e ∈ l, e.on < n) → depsD md d l → depsV md (S.V w0) u w l
  | [], _, _ => trivial
  | e :: l, hl, hd => ⟨fun hb => by
      have hde := hd.1 hb
      have hen := hl e (by simp)
      unfold RS.V
      split
      · rename_i hk; exact h.val e.on hen hk hde
      · rename_i hk
        obtain ⟨b, h1, h2, h3⟩ := h.var e.on hen hk hde
        exact ⟨b, h1, h2, (Array.getElem?_eq_some_iff.1 h3).1⟩
      · trivial, RS.I.deps h l (fun e he => hl e (by simp [he])) hd.2⟩

/-- one operation waits for another -/
def waitsB (md : Region.Mode) (o : Oper) (j : Nat) : Bool := o.after.toList.any fun e => decide (e.on = j) && Region.binds md e

/-- what is asked of each operation -/
def varAll (P : Program) (md : Region.Mode) (ops : Array Oper) (w0 : World) (S : RS) (fr : (Nat → Value) → Act) : List Oper → Nat → Prop
  | [], _ => True
  | o :: l, k => (∀ (u : Nat → Value) (w : World), Below w0.heap.size w0 w → depsV md (S.V w0) u w o.after.toList →
      match S.kind k with
      | 0 => if Region.wanted o (yielded ops (fr u).tmps) = true then relOp P o (fr u) w (fun v w' => Below w.heap.size w w' ∧ v = S.val k) else S.val k = undef
      | 1 => Region.wanted o (yielded ops (fr u).tmps) = true ∧ relOp P o (fr u) w (fun v w' => v = .pointer (some ⟨w.heap.size, 0, none⟩) ∧ w' = w.alloc (.cells (S.zs k) (S.ty k)))
      | _ => ∃ j, S.st j = k ∧ S.kind j = 1 ∧ waitsB md o j = true ∧ Region.wanted o (yielded ops (fr u).tmps) = true ∧ ∀ b : Nat, u j = .pointer (some ⟨b, 0, none⟩) → w0.heap.size ≤ b → w.heap[b]? = some (.cells (S.zs j) (S.ty j)) → relOp P o (fr u) w (fun _ w' => Stored w w' b (S.res j) (S.ty j))) ∧
    varAll P md ops w0 S fr l (k + 1)

theorem relOp_mono {o : Oper} {a : Act} {w : World} {R R' : Value → World → Prop} (h : relOp P o a w R) (hR : ∀ v w', R v w' → R' v w') : relOp P o a w R' := by
  unfold relOp at *
  generalize (execOp a.eval o).run P w = r at *
  cases r with
  | ok n w' =>
    cases n with
    | value u => exact hR _ _ h
    | skip => exact hR _ _ h
    | enter f args => exact Calls.mono h fun e w'' ⟨u, he, hr⟩ => ⟨u, he, hR _ _ hr⟩
    | _ => exact h.elim
  | halt x w' => exact h.elim

theorem invAll_vars {S : RS} {n : Nat} {ops : Array Oper} {w0 : World} {fr : (Nat → Value) → Act} (hok : S.okB n = true) : ∀ (l : List Oper) (k : Nat), k + l.length ≤ n → (∀ o ∈ l, ∀ e ∈ o.after.toList, e.on < n) →
    varAll P md ops w0 S fr l k → invAll P md ops (S.I n w0) fr l k
  | [], _, _, _, _ => trivial
  | o :: l, k, hn, hl, h => by
    simp only [List.length_cons] at hn
    refine ⟨fun d u w hk hd hI => ?_, invAll_vars hok l (k + 1) (by omega) (fun o ho => hl o (by simp [ho])) h.2⟩
    have hv := h.1 u w hI.below (hI.deps _ (hl o (by simp)) hd)
    split at hv
    · rename_i hk0
      by_cases hw : Region.wanted o (yielded ops (fr u).tmps) = true
      · rw [if_pos hw] at hv ⊢
        exact relOp_mono hv fun v w' ⟨hb, he⟩ => by subst he; exact hI.step_val hok hb (by omega) hk0
      · rw [if_neg hw] at hv ⊢
        rw [← hv]
        exact hI.step_val hok (Below.refl _ _) (by omega) hk0
    · rename_i hk1
      rw [if_pos hv.1]
      exact relOp_mono hv.2 fun v w' ⟨h1, h2⟩ => by subst h1 h2; exact hI.step_var hok (by omega) hk1 hk
    · obtain ⟨j, hj1, hj2, hwt, hw, hg⟩ := hv
      obtain ⟨e, he, hwt2⟩ := List.any_eq_true.1 hwt
      simp only [Bool.and_eq_true, decide_eq_true_eq] at hwt2
      obtain ⟨hej, hbd⟩ := hwt2
      rw [if_pos hw]
      have hjn : j < n := by rw [← hej]; exact hl o (by simp) e he
      have hdj : d j = true := by
        have : ∀ l : List Edge, depsD md d l → e ∈ l → d e.on = true := by
          intro l
          induction l with
          | nil => intro _ h; cases h
          | cons x l ih =>
            intro h hm
            rcases List.mem_cons.1 hm with rfl | hm
            · exact h.1 hbd
            · exact ih h.2 hm
        rw [← hej]; exact this _ hd he
      obtain ⟨b, g1, g2, g3⟩ := hI.var j hjn hj2 hdj
      rw [hj1, hk] at g3
      simp only [Bool.false_eq_true, if_false] at g3
      refine relOp_mono (hg b g1 g2 g3) fun v w' hs => ?_
      have := hI.step_sto (v := v) hok hjn hj2 hdj (by omega) g1 hs
      rw [hj1] at this
      exact this

/-- no operation waits for one beyond the n first -/
def nearB (l : List Oper) (n : Nat) : Bool := l.all fun o => o.after.toList.all fun e => decide (e.on < n)

/-- **THE THEOREM** -/
theorem wp_region_vars {id : Nat} {Q : Exit → Act → World → Prop} {a : Act} {w : World} {l : List Oper} (S : RS) (n : Nat) (hm : P.follows .mixedOrders = true) (hB : relB .any l n = true) (hN : nearB (l.take n) n = true) (hok : S.okB n = true)
    (hall : varAll P .any l.toArray w S (fun u => fillL a (l.take n) u 0) (l.take n) 0)
    (hend : ∀ (u : Nat → Value) (w' : World), Below w.heap.size w w' → (∀ i, i < n → S.kind i = 0 → u i = S.val i) →
      (∀ i, i < n → S.kind i = 1 → ∃ b : Nat, u i = .pointer (some ⟨b, 0, none⟩) ∧ w.heap.size ≤ b ∧ w'.heap[b]? = some (.cells (if S.st i < n then S.res i else S.zs i) (S.ty i))) →
      (∀ i j, i < n → j < n → i ≠ j → S.kind i = 1 → S.kind j = 1 → u i ≠ u j) → wpList P l.toArray Q (l.drop n) (fillL a (l.take n) u 0) w') : (Code.region id l.toArray true).wp P Q a w := by
  have hn : n ≤ l.length := by
    simp only [relB, Bool.and_eq_true, Bool.or_eq_true, decide_eq_true_eq] at hB
    omega
  refine wp_region_inv n (S.I n w) hm hB (fun u => ⟨⟨rfl, rfl, rfl, Nat.le_refl _, fun _ _ => rfl⟩, fun i _ _ h => (by cases h), fun i _ _ h => (by cases h), fun i j _ _ _ _ _ h => (by cases h), fun i _ _ h => (by cases h), fun _ _ => rfl⟩)
    (invAll_vars hok _ 0 (by simp; omega) (fun o ho e he => by
      have := List.all_eq_true.1 (List.all_eq_true.1 hN o ho) e he
      simpa using this) hall)
    (fun d u w' hd hI => hend u w' hI.below (fun i hi hk => hI.val i hi hk (hd i hi)) (fun i hi hk => ?_) (fun i j hi hj hij hki hkj => hI.apart i j hi hj hij hki hkj (hd i hi) (hd j hj)))
  obtain ⟨b, h1, h2, h3⟩ := hI.var i hi hk (hd i hi)
  refine ⟨b, h1, h2, ?_⟩
  rw [h3]
  by_cases hs : S.st i < n
  · rw [if_pos hs, if_pos (hd _ hs)]
  · rw [if_neg hs, hI.out _ (by omega)]; simp
end
end Go.Proofs.YtcfohnhieajhnaaDoor
