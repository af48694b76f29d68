/-
  A region that draws its order and stores to nothing, walked once in the order of the text, each operation's value known by a property that stays while nothing old turns. Conditions: none. By an AI agent.
-/
import Derived.Test.YtgbhhjdmochhpaaGreatDoorSeq
namespace Go.Proofs.YtgbhhjdmochhpaaGreatDoor
open Go Go.RowKit
set_option linter.unusedVariables false

/-- a property of a value and the world that stays -/
structure Stay where
  p : Value → World → Prop
  grow : ∀ v w w', Below w.heap.size w w' → p v w → p v w'
def Stay.is (x : Value) : Stay := ⟨fun v _ => v = x, fun _ _ _ _ h => h⟩
def Stay.any : Stay := ⟨fun _ _ => True, fun _ _ _ _ h => h⟩
section
variable {P : Program} {md : Region.Mode}
def depsS (md : Region.Mode) (V : Nat → Stay) (u : Nat → Value) (w : World) : List Edge → Prop
  | [] => True
  | e :: l => (Region.binds md e = true → (V e.on).p (u e.on) w) ∧ depsS md V u w l
def updS (V : Nat → Stay) (k : Nat) (p : Stay) : Nat → Stay := fun j => if j = k then p else V j
def relWalk (P : Program) (md : Region.Mode) (ops : Array Oper) (w0 : World) (fr : (Nat → Value) → Act) (fin : (Nat → Stay) → Prop) : List Oper → Nat → (Nat → Stay) → Prop
  | [], _, V => fin V
  | o :: l, k, V => ∃ p : Stay, (∀ (u : Nat → Value) (w : World), Below w0.heap.size w0 w → depsS md V u w o.after.toList →
      if Region.wanted o (yielded ops (fr u).tmps) = true then relOp P o (fr u) w (fun v w' => Below w.heap.size w w' ∧ p.p v w') else p.p undef w) ∧ relWalk P md ops w0 fr fin l (k + 1) (updS V k p)
theorem depsS_congr {V V' : Nat → Stay} {u : Nat → Value} {w : World} {k : Nat} : ∀ l : List Edge, (l.all fun e => !Region.binds md e || decide (e.on < k)) = true → (∀ j, j < k → V j = V' j) → depsV md (fun i => (V i).p) u w l → depsS md V' u w l
  | [], _, _, _ => trivial
  | e :: l, hb, he, h => by
    simp only [List.all_cons, Bool.and_eq_true] at hb
    refine ⟨fun hbd => ?_, depsS_congr l hb.2 he h.2⟩
    have h1 := h.1 hbd
    have h2 : e.on < k := by simpa [hbd] using hb.1
    rw [← he _ h2]
    exact h1
theorem relAll_of {ops : Array Oper} {w0 : World} {fr : (Nat → Value) → Act} {fin : (Nat → Stay) → Prop} : ∀ (l : List Oper) (k : Nat) (V : Nat → Stay), backL md l k = true → relWalk P md ops w0 fr fin l k V →
    ∃ V' : Nat → Stay, (∀ j, j < k → V' j = V j) ∧ relAll P md ops w0 (fun i => (V' i).p) fr l k ∧ fin V'
  | [], _, V, _, h => ⟨V, fun _ _ => rfl, trivial, h⟩
  | o :: l, k, V, hb, h => by
    obtain ⟨p, h1, h2⟩ := h
    simp only [backL, Bool.and_eq_true] at hb
    obtain ⟨V', he, ha, hf⟩ := relAll_of l (k + 1) _ hb.2 h2
    have hE : ∀ j, j < k → V' j = V j := fun j hj => by rw [he j (by omega)]; unfold updS; rw [if_neg (by omega)]
    have hp : V' k = p := by rw [he k (by omega)]; unfold updS; rw [if_pos rfl]
    refine ⟨V', hE, ⟨fun u w hbl hd => ?_, ha⟩, hf⟩
    have h3 := h1 u w hbl (depsS_congr _ hb.1 hE hd)
    show if _ then relOp P o (fr u) w (fun v w' => Below w.heap.size w w' ∧ (V' k).p v w') else (V' k).p undef w
    rw [hp]
    exact h3
/-- what is known at the end -/
def endS (V : Nat → Stay) (u : Nat → Value) (w : World) : Nat → Prop
  | 0 => True
  | k + 1 => endS V u w k ∧ (V k).p (u k) w
theorem endS_get {V : Nat → Stay} {u : Nat → Value} {w : World} : ∀ {n : Nat}, endS V u w n → ∀ i, i < n → (V i).p (u i) w
  | 0, _, i, hi => by omega
  | n + 1, h, i, hi => by
    by_cases e : i = n
    · subst e; exact h.2
    · exact endS_get h.1 i (by omega)
theorem endS_of {V : Nat → Stay} {u : Nat → Value} {w : World} : ∀ n, (∀ j, j < n → (V j).p (u j) w) → endS V u w n
  | 0, _ => trivial
  | n + 1, h => ⟨endS_of n (fun j hj => h j (by omega)), h n (by omega)⟩
/-- **THE THEOREM** -/
theorem wp_region_relw {id : Nat} {Q : Exit → Act → World → Prop} {a : Act} {w : World} {l : List Oper} (n : Nat) (hm : P.follows .mixedOrders = true) (hB : relB .any l n = true) (hL : backL .any (l.take n) 0 = true)
    (h : relWalk P .any l.toArray w (fun u => fillL a (l.take n) u 0) (fun V => ∀ (u : Nat → Value) (w' : World), Below w.heap.size w w' → endS V u w' n → wpList P l.toArray Q (l.drop n) (fillL a (l.take n) u 0) w') (l.take n) 0 (fun _ => Stay.any)) :
    (Code.region id l.toArray true).wp P Q a w := by
  obtain ⟨V, _, hall, hend⟩ := relAll_of _ _ _ hL h
  exact wp_region_rel n (fun i => (V i).p) hm hB (fun i v w w' hb hv => (V i).grow v w w' hb hv) hall (fun u w' hb hv => hend u w' hb (endS_of n hv))
section
variable {ops : Array Oper} {w0 : World} {fr : (Nat → Value) → Act} {fin : (Nat → Stay) → Prop} {o : Oper} {l : List Oper} {k : Nat} {V : Nat → Stay}
/-- one known value -/
theorem rel_is {x : Value}
    (h : ∀ (u : Nat → Value) (w : World), Below w0.heap.size w0 w → depsS md V u w o.after.toList → if Region.wanted o (yielded ops (fr u).tmps) = true then relOp P o (fr u) w (fun v w' => Below w.heap.size w w' ∧ v = x) else undef = x)
    (hl : relWalk P md ops w0 fr fin l (k + 1) (updS V k (Stay.is x))) : relWalk P md ops w0 fr fin (o :: l) k V :=
  ⟨Stay.is x, h, hl⟩
/-- a value with a property -/
theorem rel_new (p : Stay)
    (h : ∀ (u : Nat → Value) (w : World), Below w0.heap.size w0 w → depsS md V u w o.after.toList → Region.wanted o (yielded ops (fr u).tmps) = true ∧ relOp P o (fr u) w (fun v w' => Below w.heap.size w w' ∧ p.p v w'))
    (hl : relWalk P md ops w0 fr fin l (k + 1) (updS V k p)) : relWalk P md ops w0 fr fin (o :: l) k V :=
  ⟨p, fun u w hb hd => by have h1 := h u w hb hd; rw [if_pos h1.1]; exact h1.2, hl⟩
end
end
end Go.Proofs.YtgbhhjdmochhpaaGreatDoor
