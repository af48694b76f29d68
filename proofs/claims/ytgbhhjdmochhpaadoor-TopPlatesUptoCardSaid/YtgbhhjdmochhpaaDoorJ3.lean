/-
  Lemmas of this claim, joined (PolT, PolU, PolV, PlH, PlI, First, PlG, PolW, PolX). Conditions: as stated. By an AI agent.
-/
import Derived.Test.YtgbhhjdmochhpaaDoorJ2
import Derived.Test.YtgbhhjdmochhpaaDoorJ1
namespace Go.Proofs.YtgbhhjdmochhpaaDoor
set_option linter.unusedVariables false
set_option linter.unusedSimpArgs false

def xorL : List Bool → Bool
  | [] => false
  | a :: l => a != xorL l
theorem xorL_append : ∀ l m : List Bool, xorL (l ++ m) = (xorL l != xorL m)
  | [], m => by cases h : xorL m <;> simp [xorL, h]
  | a :: l, m => by
    show (a != xorL (l ++ m)) = ((a != xorL l) != xorL m)
    rw [xorL_append l m]
    generalize xorL l = x
    generalize xorL m = y
    revert a x y
    decide
theorem xorL_perm {l m : List Bool} (h : l.Perm m) : xorL l = xorL m := by
  induction h with
  | nil => rfl
  | cons x _ ih => show (x != _) = (x != _); rw [ih]
  | swap x y l =>
    show (y != (x != xorL l)) = (x != (y != xorL l))
    generalize xorL l = z
    revert x y z
    decide
  | trans _ _ h1 h2 => exact h1.trans h2
theorem xorL_congr {α : Type} {f g : α → Bool} : ∀ {l : List α}, (∀ e ∈ l, f e = g e) → xorL (l.map f) = xorL (l.map g)
  | [], _ => rfl
  | a :: l, h => by
    show (f a != _) = (g a != _)
    rw [h a (by simp), xorL_congr (fun e he => h e (by simp [he]))]
theorem xorL_bne {α : Type} (f g : α → Bool) : ∀ l : List α, xorL (l.map fun e => f e != g e) = (xorL (l.map f) != xorL (l.map g))
  | [] => rfl
  | a :: l => by
    show ((f a != g a) != _) = ((f a != _) != (g a != _))
    rw [xorL_bne f g l]
    generalize f a = x
    generalize g a = y
    generalize xorL (l.map f) = z
    generalize xorL (l.map g) = t
    revert x y z t
    decide
theorem xorL_range (f : Nat → Bool) : ∀ n, xorL ((List.range n).map f) = xorTo f n
  | 0 => rfl
  | n + 1 => by
    rw [List.range_succ, List.map_append, xorL_append, xorL_range f n]
    show (_ != (f n != false)) = (_ != f n)
    cases f n <;> rfl
theorem xorL_filter {α : Type} (p f : α → Bool) : ∀ l : List α, xorL ((l.filter p).map f) = xorL (l.map fun e => p e && f e)
  | [] => rfl
  | a :: l => by
    by_cases h : p a = true
    · rw [List.filter_cons_of_pos h]
      show (f a != _) = ((p a && f a) != _)
      rw [h, xorL_filter p f l]
      rfl
    · have h' : p a = false := by simpa using h
      rw [List.filter_cons_of_neg h]
      show _ = ((p a && f a) != _)
      rw [h', xorL_filter p f l]
      simp
theorem xorL_none {α : Type} : ∀ l : List α, xorL (l.map fun _ => false) = false
  | [] => rfl
  | a :: l => by show (false != _) = _; rw [xorL_none l]; rfl
theorem b2 : ∀ b x : Bool, (b == (true != x)) = ((!b) == x) := by decide
/-- one place alone -/
theorem xorL_one {α : Type} (p : α → Prop) [DecidablePred p] (f : α → Bool) : ∀ {l : List α}, l.Pairwise (fun e g => ¬ (p e ∧ p g)) → ∀ {e : α}, e ∈ l → p e → xorL (l.map fun g => decide (p g) && f g) = f e
  | a :: l, hp, e, he, hpe => by
    obtain ⟨h1, h2⟩ := List.pairwise_cons.1 hp
    show ((decide (p a) && f a) != _) = _
    rcases List.mem_cons.1 he with rfl | he
    · rw [xorL_congr (g := fun _ => false) (fun g hg => by
        have := h1 g hg
        have : ¬ p g := fun h => this ⟨hpe, h⟩
        simp [this])]
      rw [xorL_none]
      simp [hpe]
    · have h3 := h1 e he
      have : ¬ p a := fun h => h3 ⟨h, hpe⟩
      rw [xorL_one p f h2 he hpe]
      simp [this]

/- ALTERNATING SIGNS. -/
def S (l : List (Bool × Int)) : Int := (l.map fun e => if e.1 then e.2 else -e.2).sum
def Alt (b : Bool) (l : List (Bool × Int)) : Prop := ∀ e ∈ l, e.1 = (b == xorL (l.map fun g => decide (e.2 < g.2)))
def even (l : List (Bool × Int)) : Bool := xorL (l.map fun _ => true)
theorem sum_perm {l m : List Int} (h : l.Perm m) : l.sum = m.sum := by
  induction h with
  | nil => rfl
  | cons x _ ih => simp [ih]
  | swap x y l => simp only [List.sum_cons]; omega
  | trans _ _ h1 h2 => exact h1.trans h2
theorem exists_max : ∀ {l : List (Bool × Int)}, l ≠ [] → ∃ m ∈ l, ∀ e ∈ l, e.2 ≤ m.2
  | [a], _ => ⟨a, by simp, fun e he => by simp at he; subst he; exact Int.le_refl _⟩
  | a :: b :: l, _ => by
    obtain ⟨m, hm, h⟩ := exists_max (l := b :: l) (by simp)
    by_cases c : m.2 ≤ a.2
    · exact ⟨a, by simp, fun e he => by
        rcases List.mem_cons.1 he with rfl | he
        · exact Int.le_refl _
        · exact Int.le_trans (h e he) c⟩
    · exact ⟨m, List.mem_cons_of_mem _ hm, fun e he => by
        rcases List.mem_cons.1 he with rfl | he
        · omega
        · exact h e he⟩
theorem exists_perm {α : Type} [DecidableEq α] {m : α} {l : List α} (h : m ∈ l) : ∃ l', l.Perm (m :: l') := ⟨l.erase m, List.perm_cons_erase h⟩
theorem alt_both : ∀ (n : Nat) (l : List (Bool × Int)), l.length = n → l.Pairwise (fun e g => e.2 ≠ g.2) →
    (Alt false l → even l = false → 0 ≤ S l ∧ (l ≠ [] → 0 < S l)) ∧ (Alt true l → even l = true → ∀ T : Int, (∀ e ∈ l, e.2 < T) → 0 < T + S l)
  | 0, l, hl, hp => by
    obtain rfl : l = [] := List.length_eq_zero_iff.1 hl
    exact ⟨fun _ _ => ⟨Int.le_refl _, fun h => absurd rfl h⟩, fun _ h => by cases h⟩
  | n + 1, l, hl, hp => by
    have hne : l ≠ [] := by intro h; rw [h] at hl; cases hl
    obtain ⟨m, hm, hmax⟩ := exists_max hne
    obtain ⟨l', hp'⟩ := exists_perm hm
    have hlen : l'.length = n := by have := hp'.length_eq; rw [hl] at this; simpa using this.symm
    have hpw : (m :: l').Pairwise (fun e g => e.2 ≠ g.2) := (hp'.pairwise_iff (fun h => Ne.symm h)).1 hp
    obtain ⟨h1, h2⟩ := List.pairwise_cons.1 hpw
    have hlt : ∀ e ∈ l', e.2 < m.2 := fun e he => by
      have a := hmax e (hp'.mem_iff.2 (List.mem_cons_of_mem _ he))
      have b := h1 e he
      omega
    obtain ⟨ihA, ihB⟩ := alt_both n l' hlen h2
    have hS : S l = (if m.1 then m.2 else -m.2) + S l' := by
      unfold S
      rw [sum_perm (hp'.map _)]
      rfl
    have hE : even l = !even l' := by
      unfold even
      rw [xorL_perm (hp'.map _)]
      show (true != _) = _
      cases xorL (l'.map fun _ => true) <;> rfl
    have hX : ∀ e, xorL (l.map fun g => decide (e < g.2)) = (decide (e < m.2) != xorL (l'.map fun g => decide (e < g.2))) := fun e => by
      rw [xorL_perm (hp'.map _)]
      rfl
    have hm0 : xorL (l'.map fun g => decide (m.2 < g.2)) = false := by
      rw [xorL_congr (g := fun _ => false) (fun g hg => by have := hlt g hg; simp; omega)]
      exact xorL_none l'
    have hA : ∀ b, Alt b l → Alt (!b) l' ∧ m.1 = !b := fun b h => by
      constructor
      · intro e he
        have h3 := h e (hp'.mem_iff.2 (List.mem_cons_of_mem _ he))
        rw [hX] at h3
        have h4 := hlt e he
        rw [h3, decide_eq_true h4]
        exact b2 _ _
      · have h3 := h m hm
        rw [hX, hm0] at h3
        rw [h3]
        have : ¬ m.2 < m.2 := by omega
        rw [decide_eq_false this]
        cases b <;> rfl
    constructor
    · intro ha he
      obtain ⟨a1, a2⟩ := hA false ha
      rw [hE] at he
      have := ihB a1 (by simpa using he) m.2 hlt
      have a2 : m.1 = true := a2
      rw [hS, a2]
      simp only [if_true]
      exact ⟨by omega, fun _ => this⟩
    · intro ha he T hT
      obtain ⟨a1, a2⟩ := hA true ha
      rw [hE] at he
      have := (ihA a1 (by simpa using he)).1
      have a2 : m.1 = false := a2
      rw [hS, a2]
      have := hT m hm
      simp
      omega
theorem alt_pos {l : List (Bool × Int)} (hp : l.Pairwise (fun e g => e.2 ≠ g.2)) (h : Alt false l) (he : even l = false) : 0 ≤ S l ∧ (l ≠ [] → 0 < S l) := (alt_both _ l rfl hp).1 h he
theorem alt_neg {l : List (Bool × Int)} (hp : l.Pairwise (fun e g => e.2 ≠ g.2)) (h : Alt true l) (he : even l = false) : S l ≤ 0 ∧ (l ≠ [] → S l < 0) := by
  have hS : ∀ m : List (Bool × Int), S (m.map fun e => (!e.1, e.2)) = - S m := fun m => by
    induction m with
    | nil => rfl
    | cons a m ih =>
      unfold S at ih ⊢
      simp only [List.map_cons, List.sum_cons]
      rw [ih]
      cases a.1 <;> simp <;> omega
  have hc : ∀ (f : Bool × Int → Bool), (∀ b x y, f (b, x) = f (y, x)) → ∀ m : List (Bool × Int), xorL ((m.map fun e => (!e.1, e.2)).map f) = xorL (m.map f) := fun f hf m => by
    rw [List.map_map]
    exact xorL_congr fun e _ => hf _ _ _
  have := alt_pos (l := l.map fun e => (!e.1, e.2)) (by rw [List.pairwise_map]; exact hp) (by
    intro e he
    obtain ⟨g, hg, rfl⟩ := List.mem_map.1 he
    rw [hc _ (fun _ _ _ => rfl)]
    show (!g.1) = _
    rw [h g hg]
    exact (by decide : ∀ x : Bool, (!(true == x)) = (false == x)) _) (by unfold even; rw [hc _ (fun _ _ _ => rfl)]; exact he)
  rw [hS] at this
  exact ⟨by omega, fun hn => by have := this.2 (by simpa using hn); omega⟩
end Go.Proofs.YtgbhhjdmochhpaaDoor
namespace Go.Proofs.YtgbhhjdmochhpaaDoor
set_option linter.unusedVariables false
set_option linter.unusedSimpArgs false

instance (a b : Pt) (h : Int) : Decidable (spans a b h) := by unfold spans; infer_instance
abbrev Edg := Pt × Pt × Int
def Xe (e : Edg) (h : Int) : Int := (xp e.1 e.2.2 h).1
structure EdOk (e : Edg) : Prop where
  ea : e.1.2 % 2 = 0
  eb : e.2.1.2 % 2 = 0
  ne : e.1.2 ≠ e.2.1.2
  sl : e.2.1.1 - e.1.1 = e.2.2 * (e.2.1.2 - e.1.2)
structure Fam (E : List Edg) : Prop where
  ok : ∀ e ∈ E, EdOk e
  dist : E.Pairwise (fun e f => ∀ h, ¬ ((spans e.1 e.2.1 h ∧ spans f.1 f.2.1 h) ∧ Xe e h = Xe f h))
  evn : ∀ h, h % 2 = 1 → xorL (E.map fun e => decide (spans e.1 e.2.1 h)) = false
def dn (e : Edg) : Bool := decide (e.2.1.2 < e.1.2)
def lvl (E : List Edg) (h : Int) : List (Bool × Int) := (E.filter (fun e => decide (spans e.1 e.2.1 h))).map fun e => (!dn e, Xe e h)
theorem b3 : ∀ t d g : Bool, (g != d) = t → (!d) = (t == g) := by decide
theorem Fam.alt {E : List Edg} (hF : Fam E) {h : Int} (ho : h % 2 = 1) {t : Bool} (ht : ∀ e ∈ E, spans e.1 e.2.1 h → xorL (E.map fun f => ray f.1 f.2.1 (xp e.1 e.2.2 h)) = t) : Alt t (lvl E h) := by
  intro x hx
  obtain ⟨e, he, rfl⟩ := List.mem_map.1 hx
  obtain ⟨he, hs⟩ := List.mem_filter.1 he
  have hs := of_decide_eq_true hs
  have h1 := ht e he hs
  have oke := hF.ok e he
  refine b3 _ _ _ (Eq.trans ?_ h1)
  unfold lvl
  rw [List.map_map]
  show ((xorL ((E.filter _).map fun g => decide (Xe e h < Xe g h))) != _) = _
  rw [xorL_filter]
  have h2 := xorL_one (fun g : Edg => spans g.1 g.2.1 h ∧ Xe g h = Xe e h) dn (l := E) (hF.dist.imp fun {a b} hab hc => hab h ⟨⟨hc.1.1, hc.2.1⟩, by rw [hc.1.2, hc.2.2]⟩) he ⟨hs, rfl⟩
  rw [← h2, ← xorL_bne]
  refine xorL_congr fun f hf => ?_
  have okf := hF.ok f hf
  by_cases c1 : spans f.1 f.2.1 h
  · have e2 : (xp e.1 e.2.2 h).2 = h := rfl
    rcases c1 with c2 | c2
    · rw [ray_up okf.sl (by exact c2)]
      have d : dn f = false := by unfold dn; exact decide_eq_false (by omega)
      rw [d]
      have : spans f.1 f.2.1 h := .inl c2
      simp [this]
      rfl
    · rw [ray_down okf.sl (by exact c2)]
      have d : dn f = true := by unfold dn; exact decide_eq_true (by omega)
      rw [d]
      have : spans f.1 f.2.1 h := .inr c2
      show _ = decide (Xe e h ≤ Xe f h)
      by_cases c3 : Xe e h < Xe f h
      · have c4 : ¬ Xe f h = Xe e h := by omega
        have c5 : Xe e h ≤ Xe f h := by omega
        simp [this, c3, c4, c5]
      · by_cases c4 : Xe f h = Xe e h
        · simp [this, c4]
        · have c5 : ¬ Xe e h ≤ Xe f h := by omega
          simp [this, c3, c4, c5]
  · have hr : ray f.1 f.2.1 (xp e.1 e.2.2 h) = false := by
      have a1 := okf.ea
      have a2 := okf.eb
      refine ray_off c1 ?_ ?_
      · show h ≠ f.1.2
        omega
      · show h ≠ f.2.1.2
        omega
    rw [hr]
    simp [c1]

theorem lvl_pw {E : List Edg} (hF : Fam E) (h : Int) : (lvl E h).Pairwise (fun e g => e.2 ≠ g.2) := by
  unfold lvl
  rw [List.pairwise_map, List.pairwise_filter]
  refine hF.dist.imp fun {a b} hab ha hb hc => hab h ⟨⟨of_decide_eq_true ha, of_decide_eq_true hb⟩, hc⟩
theorem lvl_even {E : List Edg} (hF : Fam E) {h : Int} (ho : h % 2 = 1) : even (lvl E h) = false := by
  unfold even lvl
  rw [List.map_map]
  show xorL ((E.filter _).map fun _ => true) = false
  rw [xorL_filter, ← hF.evn h ho]
  exact xorL_congr fun e _ => by simp

/- SUMS. -/
def sumZ (f : Nat → Int) : Nat → Int
  | 0 => 0
  | n + 1 => sumZ f n + f n
theorem sumZ_congr {f g : Nat → Int} : ∀ {n : Nat}, (∀ i, i < n → f i = g i) → sumZ f n = sumZ g n
  | 0, _ => rfl
  | n + 1, h => by rw [sumZ, sumZ, sumZ_congr (fun i hi => h i (by omega)), h n (by omega)]
theorem sumZ_add (f g : Nat → Int) : ∀ n, sumZ (fun i => f i + g i) n = sumZ f n + sumZ g n
  | 0 => rfl
  | n + 1 => by rw [sumZ, sumZ, sumZ, sumZ_add f g n]; omega
theorem sumZ_zero : ∀ n, sumZ (fun _ => 0) n = 0
  | 0 => rfl
  | n + 1 => by rw [sumZ, sumZ_zero n]; rfl
theorem sumZ_nonneg {f : Nat → Int} : ∀ {n : Nat}, (∀ i, i < n → 0 ≤ f i) → 0 ≤ sumZ f n
  | 0, _ => Int.le_refl _
  | n + 1, h => by
    have := sumZ_nonneg (f := f) (n := n) (fun i hi => h i (by omega))
    have := h n (by omega)
    rw [sumZ]; omega
theorem sumZ_pos {f : Nat → Int} : ∀ {n : Nat}, (∀ i, i < n → 0 ≤ f i) → ∀ k, k < n → 0 < f k → 0 < sumZ f n
  | n + 1, h, k, hk, hp => by
    rw [sumZ]
    by_cases e : k = n
    · subst e
      have := sumZ_nonneg (f := f) (n := k) (fun i hi => h i (by omega))
      omega
    · have := sumZ_pos (f := f) (n := n) (fun i hi => h i (by omega)) k (by omega) hp
      have := h n (by omega)
      omega
theorem sumZ_mul (c : Int) (f : Nat → Int) : ∀ n, sumZ (fun i => c * f i) n = c * sumZ f n
  | 0 => by simp [sumZ]
  | n + 1 => by rw [sumZ, sumZ, sumZ_mul c f n, Int.mul_add]
theorem sum_range (f : Nat → Int) : ∀ n, ((List.range n).map f).sum = sumZ f n
  | 0 => rfl
  | n + 1 => by rw [List.range_succ, List.map_append, List.sum_append, sum_range f n]; simp [sumZ]
theorem sum_swap {α : Type} (f : α → Nat → Int) (J : Nat) : ∀ l : List α, (l.map fun e => sumZ (f e) J).sum = sumZ (fun j => (l.map fun e => f e j).sum) J
  | [] => by simp [sumZ_zero]
  | a :: l => by
    rw [List.map_cons, List.sum_cons, sum_swap f J l, ← sumZ_add]
    rfl
/-- what an edge gives at a height -/
def trm (e : Edg) (h : Int) : Int := if spans e.1 e.2.1 h then (if dn e then -Xe e h else Xe e h) else 0
theorem S_lvl (h : Int) : ∀ E : List Edg, S (lvl E h) = (E.map fun e => trm e h).sum
  | [] => rfl
  | e :: E => by
    have ih := S_lvl h E
    unfold S lvl at ih ⊢
    rw [List.map_cons, List.sum_cons]
    by_cases c : spans e.1 e.2.1 h
    · rw [List.filter_cons_of_pos (by simpa using c), List.map_cons, List.map_cons, List.sum_cons, ih]
      congr 1
      unfold trm
      rw [if_pos c]
      cases dn e <;> simp
    · rw [List.filter_cons_of_neg (by simpa using c), ih]
      unfold trm
      rw [if_neg c]
      simp
def arE (e : Edg) : Int := (e.1.1 + e.2.1.1) * (e.2.1.2 - e.1.2)
theorem trm_up {e : Edg} (ho : EdOk e) (hu : e.1.2 < e.2.1.2) {lo : Int} (hl : lo % 2 = 0) (h0 : lo ≤ e.1.2) : ∀ j : Nat,
    4 * sumZ (fun k => trm e (lo + 2 * k + 1)) j = (2 * e.1.1 + e.2.2 * ((if lo + 2 * j ≤ e.1.2 then e.1.2 else if lo + 2 * j ≤ e.2.1.2 then lo + 2 * j else e.2.1.2) - e.1.2)) * ((if lo + 2 * j ≤ e.1.2 then e.1.2 else if lo + 2 * j ≤ e.2.1.2 then lo + 2 * j else e.2.1.2) - e.1.2)
  | 0 => by
    have : lo + 2 * ((0 : Nat) : Int) ≤ e.1.2 := by omega
    rw [if_pos this, Int.sub_self, Int.mul_zero]
    rfl
  | j + 1 => by
    have ih := trm_up ho hu hl h0 j
    have ea := ho.ea
    have eb := ho.eb
    have hd : dn e = false := decide_eq_false (by omega)
    rw [sumZ, Int.mul_add, ih]
    unfold trm
    rw [hd]
    have cst : ((j + 1 : Nat) : Int) = (j : Int) + 1 := by omega
    rw [cst]
    by_cases c1 : lo + 2 * ((j : Int) + 1) ≤ e.1.2
    · have n1 : ¬ spans e.1 e.2.1 (lo + 2 * j + 1) := by unfold spans; omega
      rw [if_pos c1, if_pos (show lo + 2 * (j : Int) ≤ e.1.2 by omega), if_neg n1]
      omega
    · by_cases c2 : lo + 2 * (j : Int) + 1 < e.2.1.2
      · have n1 : spans e.1 e.2.1 (lo + 2 * j + 1) := by unfold spans; omega
        have c3 : lo + 2 * ((j : Int) + 1) ≤ e.2.1.2 := by omega
        have hX : Xe e (lo + 2 * j + 1) = e.1.1 + e.2.2 * (lo + 2 * j + 1 - e.1.2) := rfl
        rw [if_neg c1, if_pos c3, if_pos n1, if_neg (show ¬ (false = true) by decide), hX]
        by_cases c4 : lo + 2 * (j : Int) ≤ e.1.2
        · have c5 : lo + 2 * (j : Int) = e.1.2 := by omega
          rw [if_pos c4]
          rw [show lo + 2 * ((j : Int) + 1) = e.1.2 + 2 by omega, c5]
          grind
        · rw [if_neg c4, if_pos (show lo + 2 * (j : Int) ≤ e.2.1.2 by omega)]
          grind
      · have n1 : ¬ spans e.1 e.2.1 (lo + 2 * j + 1) := by unfold spans; omega
        rw [if_neg n1, if_neg c1, if_neg (show ¬ lo + 2 * ((j : Int) + 1) ≤ e.2.1.2 by omega), if_neg (show ¬ lo + 2 * (j : Int) ≤ e.1.2 by omega)]
        by_cases c4 : lo + 2 * (j : Int) ≤ e.2.1.2
        · rw [if_pos c4, show lo + 2 * (j : Int) = e.2.1.2 by omega]; omega
        · rw [if_neg c4]; omega
theorem trm_swap {e : Edg} (ho : EdOk e) (h : Int) : trm (e.2.1, e.1, e.2.2) h = - trm e h := by
  have hX : Xe (e.2.1, e.1, e.2.2) h = Xe e h := by
    have := ho.sl
    simp only [Xe, xp]
    grind
  unfold trm
  rw [hX]
  show (if spans e.2.1 e.1 h then (if dn _ then _ else _) else 0) = _
  by_cases c : spans e.1 e.2.1 h
  · rw [if_pos (spans_swap.2 c), if_pos c]
    have hne := ho.ne
    by_cases d : e.2.1.2 < e.1.2
    · rw [show dn e = true from decide_eq_true d, show dn (e.2.1, e.1, e.2.2) = false from decide_eq_false (by dsimp only; omega)]
      simp
    · rw [show dn e = false from decide_eq_false d, show dn (e.2.1, e.1, e.2.2) = true from decide_eq_true (by dsimp only; omega)]
      simp
  · rw [if_neg (fun h' => c (spans_swap.1 h')), if_neg c]; rfl
theorem trm_sum {e : Edg} (ho : EdOk e) {lo : Int} (hl : lo % 2 = 0) (h0 : lo ≤ e.1.2 ∧ lo ≤ e.2.1.2) {J : Nat} (hJ : e.1.2 ≤ lo + 2 * J ∧ e.2.1.2 ≤ lo + 2 * J) : 4 * sumZ (fun k => trm e (lo + 2 * k + 1)) J = arE e := by
  have hne := ho.ne
  have key : ∀ {e : Edg}, EdOk e → lo ≤ e.1.2 → e.2.1.2 ≤ lo + 2 * J → e.1.2 < e.2.1.2 → 4 * sumZ (fun k => trm e (lo + 2 * k + 1)) J = arE e := by
    intro e ho h0 hJ hu
    rw [trm_up ho hu hl h0 J, if_neg (by omega)]
    have sl := ho.sl
    unfold arE
    by_cases c : lo + 2 * (J : Int) ≤ e.2.1.2
    · rw [if_pos c, show lo + 2 * (J : Int) = e.2.1.2 by omega]
      grind
    · rw [if_neg c]
      grind
  by_cases hu : e.1.2 < e.2.1.2
  · exact key ho h0.1 hJ.2 hu
  · have ho' : EdOk (e.2.1, e.1, e.2.2) := ⟨ho.eb, ho.ea, ho.ne.symm, by have := ho.sl; dsimp only; grind⟩
    have h1 := key ho' h0.2 hJ.1 (by dsimp only; omega)
    rw [sumZ_congr (g := fun k => -1 * trm e (lo + 2 * k + 1)) (fun k _ => by rw [trm_swap ho]; omega), sumZ_mul] at h1
    have h2 : arE (e.2.1, e.1, e.2.2) = - arE e := by unfold arE; dsimp only; grind
    rw [h2] at h1
    omega
theorem bounds : ∀ E : List Edg, ∃ M : Nat, ∀ e ∈ E, (-(2 * (M : Int)) ≤ e.1.2 ∧ e.1.2 ≤ 2 * M) ∧ -(2 * (M : Int)) ≤ e.2.1.2 ∧ e.2.1.2 ≤ 2 * M
  | [] => ⟨0, fun e h => by cases h⟩
  | e :: E => by
    obtain ⟨M, hM⟩ := bounds E
    refine ⟨M + e.1.2.natAbs + e.2.1.2.natAbs, fun f hf => ?_⟩
    rcases List.mem_cons.1 hf with rfl | hf
    · omega
    · have := hM f hf
      omega
theorem near1_odd {a b : Pt} (h : a.2 % 2 = 0) : near1 a b % 2 = 1 := by unfold near1; split <;> omega
theorem Fam.area {E : List Edg} (hF : Fam E) (hne : E ≠ []) {t : Bool} (ht : ∀ e ∈ E, ∀ h, h % 2 = 1 → spans e.1 e.2.1 h → xorL (E.map fun f => ray f.1 f.2.1 (xp e.1 e.2.2 h)) = t) :
    (t = false → 0 < (E.map arE).sum) ∧ (t = true → (E.map arE).sum < 0) := by
  obtain ⟨M, hM⟩ := bounds E
  have hsum : (E.map arE).sum = 4 * sumZ (fun j => S (lvl E (-(2 * (M : Int)) + 2 * j + 1))) (2 * M) := by
    rw [sumZ_congr (fun j _ => S_lvl _ E), ← sum_swap (fun e j => trm e (-(2 * (M : Int)) + 2 * j + 1))]
    have : ∀ l : List Edg, (∀ e ∈ l, e ∈ E) → (l.map arE).sum = 4 * (l.map fun e => sumZ (fun j => trm e (-(2 * (M : Int)) + 2 * j + 1)) (2 * M)).sum := by
      intro l
      induction l with
      | nil => intro _; rfl
      | cons e l ih =>
        intro hl
        have he := hl e (by simp)
        have hb := hM e he
        have hs := trm_sum (hF.ok e he) (lo := -(2 * (M : Int))) (by omega) ⟨by omega, by omega⟩ (J := 2 * M) ⟨by omega, by omega⟩
        rw [List.map_cons, List.map_cons, List.sum_cons, List.sum_cons, ih (fun f hf => hl f (by simp [hf])), Int.mul_add, hs]
    exact this E (fun _ h => h)
  obtain ⟨e0, he0⟩ : ∃ e, e ∈ E := List.exists_mem_of_ne_nil _ hne
  have ok0 := hF.ok e0 he0
  have hb0 := hM e0 he0
  have hs0 := near1_spans ok0.ne ok0.ea ok0.eb
  have ho0 := near1_odd (b := e0.2.1) ok0.ea
  obtain ⟨j0, hj0, hje⟩ : ∃ j : Nat, j < 2 * M ∧ -(2 * (M : Int)) + 2 * j + 1 = near1 e0.1 e0.2.1 := by
    generalize near1 e0.1 e0.2.1 = h at *
    unfold spans at hs0
    exact ⟨((h + 2 * M - 1) / 2).toNat, by omega, by omega⟩
  have hne0 : lvl E (near1 e0.1 e0.2.1) ≠ [] := by
    intro hc
    have : (!dn e0, Xe e0 (near1 e0.1 e0.2.1)) ∈ lvl E (near1 e0.1 e0.2.1) := List.mem_map.2 ⟨e0, List.mem_filter.2 ⟨he0, decide_eq_true hs0⟩, rfl⟩
    rw [hc] at this
    cases this
  have hodd : ∀ j : Nat, (-(2 * (M : Int)) + 2 * j + 1) % 2 = 1 := fun j => by omega
  have hAlt : ∀ h, h % 2 = 1 → Alt t (lvl E h) := fun h ho => hF.alt ho (fun e he hs => ht e he h ho hs)
  constructor
  · rintro rfl
    have h1 := fun h ho => alt_pos (lvl_pw hF h) (hAlt h ho) (lvl_even hF ho)
    have := sumZ_pos (f := fun j => S (lvl E (-(2 * (M : Int)) + 2 * j + 1))) (n := 2 * M) (fun j _ => (h1 _ (hodd j)).1) j0 hj0 (by
      rw [hje]
      exact (h1 _ ho0).2 hne0)
    omega
  · rintro rfl
    have h1 := fun h ho => alt_neg (lvl_pw hF h) (hAlt h ho) (lvl_even hF ho)
    have := sumZ_pos (f := fun j => -1 * S (lvl E (-(2 * (M : Int)) + 2 * j + 1))) (n := 2 * M) (fun j _ => by
      have := (h1 _ (hodd j)).1
      omega) j0 hj0 (by
      rw [hje]
      have := (h1 _ ho0).2 hne0
      omega)
    rw [sumZ_mul] at this
    omega
end Go.Proofs.YtgbhhjdmochhpaaDoor
namespace Go.Proofs.YtgbhhjdmochhpaaDoor
set_option linter.unusedVariables false
set_option linter.unusedSimpArgs false

def eds (n : Nat) (Q : Nat → Pt) (s : Nat → Int) : List Edg := (List.range n).map fun i => (Q i, Q (nx n i), s i)
def area2 (n : Nat) (Q : Nat → Pt) : Int := sumZ (fun i => (Q i).1 * (Q (nx n i)).2 - (Q (nx n i)).1 * (Q i).2) n
def flat (k : Nat) (cn : Nat → Nat) (CQ : Nat → Nat → Pt) (Cs : Nat → Nat → Int) : List Edg := (List.range k).flatMap fun c => eds (cn c) (CQ c) (Cs c)
theorem sum_chain (g : Nat → Int) : ∀ k, sumZ (fun i => g (i + 1) - g i) k = g k - g 0
  | 0 => by simp [sumZ]
  | k + 1 => by rw [sumZ, sum_chain g k]; omega
theorem sum_cyc (g : Nat → Int) : ∀ n, sumZ (fun i => g (nx n i) - g i) n = 0
  | 0 => rfl
  | n + 1 => by
    rw [sumZ, sumZ_congr (g := fun i => g (i + 1) - g i) (fun i hi => by rw [nx_val (by omega), if_pos (by omega)]), sum_chain, nx_val (by omega), if_neg (by omega)]
    omega
theorem eds_area (n : Nat) (Q : Nat → Pt) (s : Nat → Int) : ((eds n Q s).map arE).sum = area2 n Q := by
  unfold eds area2
  rw [List.map_map]
  show ((List.range n).map (fun i => arE (Q i, Q (nx n i), s i))).sum = _
  rw [sum_range]
  have h := sum_cyc (fun i => (Q i).1 * (Q i).2) n
  have e : sumZ (fun i => arE (Q i, Q (nx n i), s i)) n = sumZ (fun i => ((Q i).1 * (Q (nx n i)).2 - (Q (nx n i)).1 * (Q i).2) + ((Q (nx n i)).1 * (Q (nx n i)).2 - (Q i).1 * (Q i).2)) n := sumZ_congr fun i _ => by
    show ((Q i).1 + (Q (nx n i)).1) * ((Q (nx n i)).2 - (Q i).2) = _
    grind
  rw [e, sumZ_add, h]
  omega
theorem xorL_flat {α β : Type} (g : Nat → List α) (f : α → Bool) : ∀ k, xorL (((List.range k).flatMap g).map f) = xorTo (fun c => xorL ((g c).map f)) k
  | 0 => rfl
  | k + 1 => by
    rw [List.range_succ, List.flatMap_append, List.map_append, xorL_append, xorL_flat (β := β) g f k]
    simp [xorTo]
theorem sum_flat (g : Nat → List Edg) (f : Edg → Int) : ∀ k, (((List.range k).flatMap g).map f).sum = sumZ (fun c => ((g c).map f).sum) k
  | 0 => rfl
  | k + 1 => by
    rw [List.range_succ, List.flatMap_append, List.map_append, List.sum_append, sum_flat g f k]
    simp [sumZ]
theorem eds_par (n : Nat) (Q : Nat → Pt) (s : Nat → Int) (q : Pt) : xorL ((eds n Q s).map fun f => ray f.1 f.2.1 q) = par n Q q := by
  unfold eds par
  rw [List.map_map, ← xorL_range]
  rfl
theorem span_above {a b : Pt} {h : Int} (ha : a.2 % 2 = 0) (hb : b.2 % 2 = 0) (ho : h % 2 = 1) : decide (spans a b h) = (decide (h < a.2) != decide (h < b.2)) := by
  unfold spans
  by_cases c1 : h < a.2 <;> by_cases c2 : h < b.2
  · have : ¬ (a.2 < h ∧ h < b.2 ∨ b.2 < h ∧ h < a.2) := by omega
    simp [c1, c2, this]; omega
  · have : (a.2 < h ∧ h < b.2 ∨ b.2 < h ∧ h < a.2) := by omega
    simp [c1, c2]; omega
  · have : (a.2 < h ∧ h < b.2 ∨ b.2 < h ∧ h < a.2) := by omega
    simp [c1, c2]; omega
  · simp [c1, c2]
section
variable {k : Nat} {cn : Nat → Nat} {CQ : Nat → Nat → Pt} {Cs : Nat → Nat → Int}
/-- contours that do not meet -/
structure Apart (k : Nat) (cn : Nat → Nat) (CQ : Nat → Nat → Pt) (Cs : Nat → Nat → Int) : Prop where
  gen : ∀ c, c < k → Gen (cn c) (CQ c) (Cs c)
  nm : ∀ c d, c < k → d < k → c ≠ d → ∀ i j, i < cn c → j < cn d → ¬ meets (CQ c i) (CQ c (nx (cn c) i)) (CQ d j) (CQ d (nx (cn d) j))
theorem mem_flat {e : Edg} : e ∈ flat k cn CQ Cs ↔ ∃ c, c < k ∧ ∃ i, i < cn c ∧ (CQ c i, CQ c (nx (cn c) i), Cs c i) = e := by
  unfold flat eds
  simp only [List.mem_flatMap, List.mem_range, List.mem_map]
theorem Gen.pos {n : Nat} {Q : Nat → Pt} {s : Nat → Int} (g : Gen n Q s) : 0 < n := by have := g.n3; omega
theorem Gen.edok {n : Nat} {Q : Nat → Pt} {s : Nat → Int} (g : Gen n Q s) {i : Nat} (hi : i < n) : EdOk (Q i, Q (nx n i), s i) := ⟨g.ev i hi, g.ev _ (nx_lt g.pos), g.lv i hi, g.sl i hi⟩
theorem edge_point {e : Edg} (ho : EdOk e) {h : Int} (hs : spans e.1 e.2.1 h) : onS e.1 e.2.1 (Xe e h, h) := xp_on ho.ne ho.sl hs
theorem Gen.dist {n : Nat} {Q : Nat → Pt} {s : Nat → Int} (g : Gen n Q s) {i j : Nat} (hi : i < n) (hj : j < n) (hij : i ≠ j) {h : Int} (h1 : spans (Q i) (Q (nx n i)) h) (h2 : spans (Q j) (Q (nx n j)) h) : Xe (Q i, Q (nx n i), s i) h ≠ Xe (Q j, Q (nx n j), s j) h := by
  intro he
  have p1 := edge_point (g.edok hi) h1
  have p2 := edge_point (g.edok hj) h2
  rw [he] at p1
  dsimp only at p1 p2
  by_cases c1 : nx n i = j
  · obtain ⟨n1, n2⟩ := g.nf i hi
    have l := g.lv i hi
    rw [c1] at n1 n2 p1 l h1
    exact adj l (g.lv j hj) n1 n2 p1 (by unfold spans at h1; dsimp only; omega) p2
  by_cases c2 : nx n j = i
  · obtain ⟨n1, n2⟩ := g.nf j hj
    have l := g.lv j hj
    rw [c2] at n1 n2 p2 l h2
    exact adj l (g.lv i hi) n1 n2 p2 (by unfold spans at h2; dsimp only; omega) p1
  exact g.nm i j hi hj hij c1 c2 (common (g.lv i hi) (g.lv j hj) p1 p2)
theorem Apart.fam (g : Apart k cn CQ Cs) : Fam (flat k cn CQ Cs) where
  ok := fun e he => by
    obtain ⟨c, hc, i, hi, rfl⟩ := mem_flat.1 he
    exact (g.gen c hc).edok hi
  dist := by
    unfold flat
    rw [List.pairwise_flatMap]
    constructor
    · intro c hc
      have hc : c < k := by simpa using hc
      unfold eds
      rw [List.pairwise_map]
      refine List.Pairwise.imp_of_mem ?_ (List.pairwise_lt_range (n := cn c))
      intro i j hi hj hij h hh
      have hi : i < cn c := by simpa using hi
      have hj : j < cn c := by simpa using hj
      exact (g.gen c hc).dist hi hj (by omega) hh.1.1 hh.1.2 hh.2
    · refine List.Pairwise.imp_of_mem ?_ (List.pairwise_lt_range (n := k))
      intro c d hc hd hcd e he f hf h hh
      have hc : c < k := by simpa using hc
      have hd : d < k := by simpa using hd
      unfold eds at he hf
      simp only [List.mem_map, List.mem_range] at he hf
      obtain ⟨i, hi, rfl⟩ := he
      obtain ⟨j, hj, rfl⟩ := hf
      have gc := g.gen c hc
      have gd := g.gen d hd
      have p1 := edge_point (gc.edok hi) hh.1.1
      have p2 := edge_point (gd.edok hj) hh.1.2
      rw [hh.2] at p1
      exact g.nm c d hc hd (by omega) i j hi hj (common (gc.lv i hi) (gd.lv j hj) p1 p2)
  evn := fun h ho => by
    unfold flat
    rw [xorL_flat (β := Nat)]
    refine xorTo_false fun c hc => ?_
    have gc := g.gen c hc
    unfold eds
    rw [List.map_map, xorL_range]
    show xorTo (fun i => decide (spans (CQ c i) (CQ c (nx (cn c) i)) h)) (cn c) = false
    rw [xorTo_congr (g := fun i => decide (h < (CQ c i).2) != decide (h < (CQ c (nx (cn c) i)).2)) (fun i hi => span_above (gc.ev i hi) (gc.ev _ (nx_lt gc.pos)) ho)]
    exact xor_cyc (fun i => decide (h < (CQ c i).2)) (cn c)
/-- the parity of another contour at a point of an edge -/
theorem Apart.other (g : Apart k cn CQ Cs) {c d i : Nat} (hc : c < k) (hd : d < k) (hcd : c ≠ d) (hi : i < cn c) {h : Int} (hs : spans (CQ c i) (CQ c (nx (cn c) i)) h) : par (cn d) (CQ d) (xp (CQ c i) (Cs c i) h) = par (cn d) (CQ d) (CQ c i) := by
  have gc := g.gen c hc
  have gd := g.gen d hd
  refine par_seg fun j hj hm => g.nm c d hc hd hcd i j hi hj (sub_meets (gc.lv i hi) (gd.lv j hj) ?_ (xp_on (gc.lv i hi) (gc.sl i hi) hs) ?_ hm)
  · unfold spans at hs
    simp only [xp]
    omega
  · exact on_of_lev (gc.lv i hi) (by simp only [crs]; grind) (by unfold bt; omega)
/-- the sign of an area and the parity of the contour itself -/
theorem Gen.sign {n : Nat} {Q : Nat → Pt} {s : Nat → Int} (g : Gen n Q s) {t : Bool} (ht : ∀ i h, i < n → spans (Q i) (Q (nx n i)) h → par n Q (xp (Q i) (s i) h) = t) : (t = false → 0 < area2 n Q) ∧ (t = true → area2 n Q < 0) := by
  have ga : Apart 1 (fun _ => n) (fun _ => Q) (fun _ => s) := ⟨fun _ _ => g, fun c d hc hd hcd => by omega⟩
  have e : flat 1 (fun _ => n) (fun _ => Q) (fun _ => s) = eds n Q s := by simp [flat, List.range_succ]
  have hF := ga.fam
  rw [e] at hF
  have h := hF.area (t := t) (by
    intro hc
    have := congrArg List.length hc
    have := g.pos
    simp [eds] at *
    omega) (fun e he h ho hs => by
    unfold eds at he
    simp only [List.mem_map, List.mem_range] at he
    obtain ⟨i, hi, rfl⟩ := he
    rw [eds_par]
    exact ht i h hi hs)
  rw [eds_area] at h
  exact h
/-- contours in the first one, apart from each other -/
theorem Apart.total (g : Apart k cn CQ Cs) (h0 : 0 < k) (a0 : 0 < area2 (cn 0) (CQ 0)) (a1 : ∀ c, 0 < c → c < k → area2 (cn c) (CQ c) < 0)
    (i0 : ∀ c, 0 < c → c < k → ∀ i, i < cn c → par (cn 0) (CQ 0) (CQ c i) = true) (i1 : ∀ c d, c < k → 0 < d → d < k → c ≠ d → ∀ i, i < cn c → par (cn d) (CQ d) (CQ c i) = false) :
    0 < sumZ (fun c => area2 (cn c) (CQ c)) k := by
  have hF := g.fam
  have own : ∀ c, c < k → ∀ i h, i < cn c → spans (CQ c i) (CQ c (nx (cn c) i)) h → par (cn c) (CQ c) (xp (CQ c i) (Cs c i) h) = decide (0 < c) := by
    intro c hc i h hi hs
    obtain ⟨t, ht⟩ := (g.gen c hc).all
    have hsg := (g.gen c hc).sign ht
    rw [ht i h hi hs]
    cases t with
    | false =>
      have := hsg.1 rfl
      by_cases e : 0 < c
      · have := a1 c e hc; omega
      · simp [e]
    | true =>
      have := hsg.2 rfl
      by_cases e : 0 < c
      · simp [e]
      · obtain rfl : c = 0 := by omega
        omega
  have h := hF.area (t := false) (by
    intro hc
    have hp := (g.gen 0 h0).pos
    have : (CQ 0 0, CQ 0 (nx (cn 0) 0), Cs 0 0) ∈ flat k cn CQ Cs := mem_flat.2 ⟨0, h0, 0, hp, rfl⟩
    rw [hc] at this
    cases this) (fun e he h ho hs => by
    obtain ⟨c, hc, i, hi, rfl⟩ := mem_flat.1 he
    unfold flat
    rw [xorL_flat (β := Nat)]
    rw [xorTo_congr (g := fun d => par (cn d) (CQ d) (xp (CQ c i) (Cs c i) h)) (fun d hd => eds_par _ _ _ _)]
    have z : xorTo (fun _ => false) k = false := xorTo_false fun _ _ => rfl
    by_cases e : c = 0
    · subst e
      refine xorTo_false fun d hd => ?_
      by_cases e2 : d = 0
      · subst e2
        exact (own 0 h0 i h hi hs).trans (by decide)
      · rw [g.other hc hd (Ne.symm e2) hi hs]
        exact i1 0 d h0 (by omega) hd (Ne.symm e2) i hi
    · rw [← z]
      refine xorTo_two (i := 0) (k := c) (Ne.symm e) h0 hc (fun d hd d0 dc => ?_) ?_
      · rw [g.other hc hd (Ne.symm dc) hi hs]
        exact i1 c d hc (by omega) hd (Ne.symm dc) i hi
      · have e1 := own c hc i h hi hs
        rw [decide_eq_true (show 0 < c by omega)] at e1
        show (par (cn 0) (CQ 0) (xp (CQ c i) (Cs c i) h) != par (cn c) (CQ c) (xp (CQ c i) (Cs c i) h)) = _
        rw [e1, g.other hc h0 e hi hs, i0 c (by omega) hc i hi]
        rfl)
  have := h.1 rfl
  unfold flat at this
  rw [sum_flat] at this
  rw [sumZ_congr (fun c _ => eds_area _ _ _)] at this
  exact this
end
end Go.Proofs.YtgbhhjdmochhpaaDoor
namespace Go.Proofs.YtgbhhjdmochhpaaDoor
open Go Go.ChangeShapes Go.WideShapes Go.RowKit Go.ChangeAt
set_option linter.unusedVariables false
set_option linter.unusedSimpArgs false

theorem nx_mod {n j : Nat} (h : j < n) : ((j : Int) + 1).tmod (n : Int) = (nx n j : Int) := by
  rw [Int.tmod_eq_emod_of_nonneg (by omega)]
  unfold nx
  rw [Int.natCast_emod]
  rfl

set_option maxHeartbeats 2000000 in
set_option maxRecDepth 20000 in
theorem areaP_any (v : Value) (n : Nat) (P : Nat → Pt) (w : World) (h : PtsAt w v n P) (hn1 : n ≤ 1000) (hP : Hid (∀ i, i < n → nearB 32768 (P i) = true)) :
    Calls Tryd.prog 39 #[v] w fun e w' => e = .returned (.int .i64 (area2 n P)) ∧ Below w.heap.size w w' := by
  obtain ⟨oa, cap, rfl, hn, hc, hel⟩ := h.form
  have HEL := Lib.hid hel
  clear h hel
  obtain ⟨R, hR⟩ : ∃ R, area2 n P = R := ⟨_, rfl⟩
  have HR := Lib.hid hR
  rw [hR]
  clear hR
  go_enter Tryd.func39, Tryd.ntmps39
  go_wp2
  go_loopw [3, 9] (fun t i wr => ∃ (j : Nat) (s : Int), j ≤ n ∧ i = .int .i64 j ∧ t = .int .i64 s ∧ Hid (s = sumZ (fun i => (P i).1 * (P (nx n i)).2 - (P (nx n i)).1 * (P i).2) j) ∧ Hid (-(34359738368 * (j : Int)) ≤ s ∧ s ≤ 34359738368 * (j : Int)) ∧ Below w.heap.size w wr) (fun t i _ => n - (intOf i).toNat)
  case atStart => exact ⟨0, 0, by omega, rfl, rfl, rfl, ⟨by omega, by omega⟩, Below.refl _ _⟩
  case round =>
    obtain ⟨j, s, hj, rfl, rfl, hss, hsb, hB⟩ := hrel
    have HBr := Lib.hid hB
    by_cases hlt : j < n
    · obtain ⟨b1, f1, rfl, hbl1, hcl1⟩ := HEL.out j hlt
      have hsb0 := hsb.out
      obtain ⟨J1, hJ1⟩ : ∃ e, (j : Int) + 1 = e := ⟨_, rfl⟩
      obtain ⟨q, hq⟩ : ∃ q, nx n j = q := ⟨_, rfl⟩
      have hqn : q < n := by rw [← hq]; exact nx_lt (by omega)
      have i1 : IntKind.i64.wrap ((j : Int) + 1) = J1 := by rw [hJ1]; exact IntWalk.i64_in _ (by omega)
      have i2 : J1.tmod (n : Int) = (q : Int) := by rw [← hJ1, ← hq]; exact nx_mod hlt
      have i3 : IntKind.i64.wrap (q : Int) = (q : Int) := IntWalk.i64_in _ (by omega)
      have i4 : ((n : Int) == 0) = false := by simp; omega
      have i5 : (0 : Int) ≤ (q : Int) := by omega
      have i6 : (q : Int) < (n : Int) := by omega
      have i7 : IntKind.i64.wrap (J1.tmod (n : Int)) = (q : Int) := by rw [i2]; exact i3
      have HJ1 := Lib.hid hJ1
      have HQ := Lib.hid hq
      have c0 : wr.cell? ⟨b1, f1 + j * 2, none⟩ = some (.int .i64 (P j).1) := (hB.cell (p := ⟨_, _, none⟩) hbl1).trans (hcl1 j hlt).1
      have c1 : wr.cell? ⟨b1, f1 + j * 2 + 1, none⟩ = some (.int .i64 (P j).2) := (hB.cell (p := ⟨_, _, none⟩) hbl1).trans (hcl1 j hlt).2
      have d0 : wr.cell? ⟨b1, f1 + q * 2, none⟩ = some (.int .i64 (P q).1) := (hB.cell (p := ⟨_, _, none⟩) hbl1).trans (hcl1 q hqn).1
      have d1 : wr.cell? ⟨b1, f1 + q * 2 + 1, none⟩ = some (.int .i64 (P q).2) := (hB.cell (p := ⟨_, _, none⟩) hbl1).trans (hcl1 q hqn).2
      have hbr : b1 < wr.heap.size := by have := hB.size; omega
      have k0 : (0 : Int) ≤ (j : Int) := by omega
      have k1 : (j : Int) < (n : Int) := by omega
      obtain ⟨a1, ha1⟩ : ∃ e, (P j).1 = e := ⟨_, rfl⟩
      obtain ⟨a2, ha2⟩ : ∃ e, (P j).2 = e := ⟨_, rfl⟩
      obtain ⟨b1', hb1⟩ : ∃ e, (P q).1 = e := ⟨_, rfl⟩
      obtain ⟨b2', hb2⟩ : ∃ e, (P q).2 = e := ⟨_, rfl⟩
      have n1 := nearB_iff.1 (hP.out j hlt)
      have n2 := nearB_iff.1 (hP.out q hqn)
      rw [ha1, ha2] at n1
      rw [hb1, hb2] at n2
      have g1 := prod_bd (x := a1) (y := b2') (by omega) (by omega)
      have g2 := prod_bd (x := b1') (y := a2) (by omega) (by omega)
      obtain ⟨m1, hm1⟩ : ∃ e, a1 * b2' = e := ⟨_, rfl⟩
      obtain ⟨m2, hm2⟩ : ∃ e, b1' * a2 = e := ⟨_, rfl⟩
      rw [hm1] at g1
      rw [hm2] at g2
      obtain ⟨D, hD⟩ : ∃ e, m1 - m2 = e := ⟨_, rfl⟩
      obtain ⟨S', hS'⟩ : ∃ e, s + D = e := ⟨_, rfl⟩
      have v1 : IntKind.i64.wrap (a1 * b2') = m1 := by rw [hm1]; exact IntWalk.i64_in _ (by omega)
      have v2 : IntKind.i64.wrap (b1' * a2) = m2 := by rw [hm2]; exact IntWalk.i64_in _ (by omega)
      have v3 : IntKind.i64.wrap (m1 - m2) = D := by rw [hD]; exact IntWalk.i64_in _ (by omega)
      have v4 : IntKind.i64.wrap (s + D) = S' := by rw [hS']; exact IntWalk.i64_in _ (by omega)
      have HS : Hid (S' = sumZ (fun i => (P i).1 * (P (nx n i)).2 - (P (nx n i)).1 * (P i).2) (j + 1)) := by
        show _ = _
        unfold sumZ
        rw [← hss.out, HQ.out, ha1, ha2, hb1, hb2, hm1, hm2, hD, hS']
      have HB1 : Hid (-(34359738368 * ((j + 1 : Nat) : Int)) ≤ S' ∧ S' ≤ 34359738368 * ((j + 1 : Nat) : Int)) := by
        show _ ∧ _
        have e : ((j + 1 : Nat) : Int) = (j : Int) + 1 := by omega
        rw [e, Int.mul_add]
        omega
      rw [ha1] at c0
      rw [ha2] at c1
      rw [hb1] at d0
      rw [hb2] at d1
      clear hcl1 hB hsb0 n1 n2 g1 g2 ha1 ha2 hb1 hb2 hm1 hm2 hD hS' hJ1 hq
      go_wp2
      go_roundw
      case rel =>
        have hB := HBr.out
        have hz := hB.size
        exact ⟨j + 1, S', by omega, by rw [← HJ1.out]; rfl, rfl, HS, HB1.out, by go_grown⟩
      case measure => have := HJ1.out; simp [intOf]; omega
    · have HE : Hid (s = R) := by
        show _ = _
        have e : j = n := by omega
        rw [← HR.out, hss.out, e]
        rfl
      go_wp2
      go_returns
      rw [HE.out]
      exact ⟨rfl, HBr.out⟩
end Go.Proofs.YtgbhhjdmochhpaaDoor
namespace Go.Proofs.YtgbhhjdmochhpaaDoor
open Go Go.ChangeShapes Go.WideShapes Go.RowKit Go.ChangeAt
set_option linter.unusedVariables false
set_option linter.unusedSimpArgs false

def crossB (n : Nat) (P : Nat → Pt) (m : Nat) (Q : Nat → Pt) : Bool := !allTo (fun i => allTo (fun k => !decide (meets (P i) (P (nx n i)) (Q k) (Q (nx m k)))) m) n
theorem cross_yes {n m i k : Nat} {P Q : Nat → Pt} (hi : i < n) (hk : k < m) (h : decide (meets (P i) (P (nx n i)) (Q k) (Q (nx m k))) = true) : crossB n P m Q = true := by
  unfold crossB
  have e : allTo (fun k => !decide (meets (P i) (P (nx n i)) (Q k) (Q (nx m k)))) m = false := allTo_no hk (by show (!decide _) = _; rw [h]; rfl)
  rw [allTo_no (f := fun i => allTo (fun k => !decide (meets (P i) (P (nx n i)) (Q k) (Q (nx m k)))) m) hi e]
  rfl
theorem cross_no {n m : Nat} {P Q : Nat → Pt} (h : ∀ i, i < n → ∀ k, k < m → decide (meets (P i) (P (nx n i)) (Q k) (Q (nx m k))) = false) : crossB n P m Q = false := by
  unfold crossB
  rw [allTo_iff.2 (fun i hi => allTo_iff.2 (fun k hk => by show (!decide _) = _; rw [h i hi k hk]; rfl))]
  rfl
theorem cross_iff {n m : Nat} {P Q : Nat → Pt} : crossB n P m Q = false ↔ ∀ i k, i < n → k < m → ¬ meets (P i) (P (nx n i)) (Q k) (Q (nx m k)) := by
  constructor
  · intro h i k hi hk hc
    rw [cross_yes hi hk (decide_eq_true hc)] at h
    cases h
  · intro h
    exact cross_no fun i hi k hk => decide_eq_false (h i k hi hk)
set_option maxHeartbeats 4000000 in
set_option maxRecDepth 20000 in
theorem cross13_any (v u : Value) (n m : Nat) (P Q : Nat → Pt) (w : World) (h : PtsAt w v n P) (h' : PtsAt w u m Q) (hP : Hid (∀ i, i < n → nearB 32768 (P i) = true)) (hQ : Hid (∀ i, i < m → nearB 32768 (Q i) = true)) :
    Calls Tryd.prog 33 #[v, u] w fun e w' => e = .returned (.bool (crossB n P m Q)) ∧ Below w.heap.size w w' := by
  obtain ⟨oa, cap, rfl, hn, hc, hel⟩ := h.form
  obtain ⟨ob, cap', rfl, hn', hc', hel'⟩ := h'.form
  have HEL := Lib.hid hel
  have HEL' := Lib.hid hel'
  clear h hel h' hel'
  obtain ⟨R, hR⟩ : ∃ R, crossB n P m Q = R := ⟨_, rfl⟩
  have HR := Lib.hid hR
  rw [hR]
  clear hR
  go_enter Tryd.func33, Tryd.ntmps33
  go_wp2
  go_loopw [5] (fun i wr => ∃ j : Nat, j ≤ n ∧ i = .int .i64 j ∧ Hid (∀ i, i < j → ∀ k, k < m → decide (meets (P i) (P (nx n i)) (Q k) (Q (nx m k))) = false) ∧ Below w.heap.size w wr) (fun i _ => n - (intOf i).toNat)
  case atStart => exact ⟨0, by omega, rfl, fun k hk => absurd hk (by omega), Below.refl _ _⟩
  case round =>
    obtain ⟨w1, rfl⟩ : ∃ x : World, x = wr := ⟨_, rfl⟩
    obtain ⟨j, hj, rfl, hq0, hB1⟩ := hrel
    have HB1r := Lib.hid hB1
    by_cases hlt : j < n
    · obtain ⟨J1, hJ1⟩ : ∃ e, (j : Int) + 1 = e := ⟨_, rfl⟩
      obtain ⟨q, hq⟩ : ∃ q, nx n j = q := ⟨_, rfl⟩
      have qn : q < n := by rw [← hq]; exact nx_lt (by omega)
      have i1 : IntKind.i64.wrap ((j : Int) + 1) = J1 := by rw [hJ1]; exact IntWalk.i64_in _ (by omega)
      have i2 : J1.tmod (n : Int) = (q : Int) := by rw [← hJ1, ← hq]; exact nx_mod hlt
      have i3 : IntKind.i64.wrap (q : Int) = (q : Int) := IntWalk.i64_in _ (by omega)
      have i4 : ((n : Int) == 0) = false := by simp; omega
      have i0 : ¬ n = 0 := by omega
      have i5 : (0 : Int) ≤ (q : Int) := by omega
      have i6 : (q : Int) < (n : Int) := by omega
      have i7 : IntKind.i64.wrap (J1.tmod (n : Int)) = (q : Int) := by rw [i2]; exact i3
      have HJ1 := Lib.hid hJ1
      have Hq := Lib.hid hq
      have i8 : (0 : Int) ≤ (j : Int) := by omega
      have i9 : (j : Int) < (n : Int) := by omega
      clear hJ1 hq
      go_wp2
      go_loopw [6] (fun i wr => ∃ l : Nat, l ≤ m ∧ i = .int .i64 l ∧ Hid (∀ k, k < l → decide (meets (P j) (P (nx n j)) (Q k) (Q (nx m k))) = false) ∧ Below w.heap.size w wr) (fun i _ => m - (intOf i).toNat)
      case atStart => exact ⟨0, by omega, rfl, fun k hk => absurd hk (by omega), HB1r.out⟩
      case round =>
        obtain ⟨w2, rfl⟩ : ∃ x : World, x = wr := ⟨_, rfl⟩
        obtain ⟨l, hl, rfl, hq1, hB2⟩ := hrel
        have HB2r := Lib.hid hB2
        by_cases hll : l < m
        · obtain ⟨bk1, f1, rfl, hbl1, hcl1⟩ := HEL.out j hlt
          obtain ⟨bk2, f2, rfl, hbl2, hcl2⟩ := HEL'.out l hll
          obtain ⟨L1, hL1⟩ : ∃ e, (l : Int) + 1 = e := ⟨_, rfl⟩
          obtain ⟨r, hr⟩ : ∃ q, nx m l = q := ⟨_, rfl⟩
          have rn : r < m := by rw [← hr]; exact nx_lt (by omega)
          have t1 : IntKind.i64.wrap ((l : Int) + 1) = L1 := by rw [hL1]; exact IntWalk.i64_in _ (by omega)
          have t2 : L1.tmod (m : Int) = (r : Int) := by rw [← hL1, ← hr]; exact nx_mod hll
          have t3 : IntKind.i64.wrap (r : Int) = (r : Int) := IntWalk.i64_in _ (by omega)
          have t4 : ((m : Int) == 0) = false := by simp; omega
          have t0 : ¬ m = 0 := by omega
          have t5 : (0 : Int) ≤ (r : Int) := by omega
          have t6 : (r : Int) < (m : Int) := by omega
          have t7 : IntKind.i64.wrap (L1.tmod (m : Int)) = (r : Int) := by rw [t2]; exact t3
          have HL1 := Lib.hid hL1
          have Hr := Lib.hid hr
          have t8 : (0 : Int) ≤ (l : Int) := by omega
          have t9 : (l : Int) < (m : Int) := by omega
          clear hL1 hr
          have pa0 : w2.cell? ⟨bk1, f1 + j * 2, none⟩ = some (.int .i64 (P j).1) := (hB2.cell (p := ⟨_, _, none⟩) hbl1).trans (hcl1 j hlt).1
          have pa1 : w2.cell? ⟨bk1, f1 + j * 2 + 1, none⟩ = some (.int .i64 (P j).2) := (hB2.cell (p := ⟨_, _, none⟩) hbl1).trans (hcl1 j hlt).2
          have pb0 : w2.cell? ⟨bk1, f1 + q * 2, none⟩ = some (.int .i64 (P q).1) := (hB2.cell (p := ⟨_, _, none⟩) hbl1).trans (hcl1 q qn).1
          have pb1 : w2.cell? ⟨bk1, f1 + q * 2 + 1, none⟩ = some (.int .i64 (P q).2) := (hB2.cell (p := ⟨_, _, none⟩) hbl1).trans (hcl1 q qn).2
          have pc0 : w2.cell? ⟨bk2, f2 + l * 2, none⟩ = some (.int .i64 (Q l).1) := (hB2.cell (p := ⟨_, _, none⟩) hbl2).trans (hcl2 l hll).1
          have pc1 : w2.cell? ⟨bk2, f2 + l * 2 + 1, none⟩ = some (.int .i64 (Q l).2) := (hB2.cell (p := ⟨_, _, none⟩) hbl2).trans (hcl2 l hll).2
          have pd0 : w2.cell? ⟨bk2, f2 + r * 2, none⟩ = some (.int .i64 (Q r).1) := (hB2.cell (p := ⟨_, _, none⟩) hbl2).trans (hcl2 r rn).1
          have pd1 : w2.cell? ⟨bk2, f2 + r * 2 + 1, none⟩ = some (.int .i64 (Q r).2) := (hB2.cell (p := ⟨_, _, none⟩) hbl2).trans (hcl2 r rn).2
          obtain ⟨bb, hbb⟩ : ∃ b, decide (meets (P j) (P q) (Q l) (Q r)) = b := ⟨_, rfl⟩
          have HBB := Lib.hid hbb
          have HM : Hid (∀ W, Calls Tryd.prog 55 #[.agg #[.int .i64 (P j).1, .int .i64 (P j).2], .agg #[.int .i64 (P q).1, .int .i64 (P q).2], .agg #[.int .i64 (Q l).1, .int .i64 (Q l).2], .agg #[.int .i64 (Q r).1, .int .i64 (Q r).2]] W (fun e w' => e = .returned (.bool bb) ∧ Below W.heap.size W w')) := fun W => by
            rw [← hbb]
            exact meet13_any _ _ _ _ _ _ _ _ W (near_nr (hP.out j hlt)) (near_nr (hP.out q qn)) (near_nr (hQ.out l hll)) (near_nr (hQ.out r rn))
          clear hbb
          have zb1 : bk1 < w2.heap.size := by have := hB2.size; omega
          have zb2 : bk2 < w2.heap.size := by have := hB2.size; omega
          obtain ⟨a1, ha1⟩ : ∃ e, (P j).1 = e := ⟨_, rfl⟩
          rw [ha1] at pa0 HM
          clear ha1
          obtain ⟨a2, ha2⟩ : ∃ e, (P j).2 = e := ⟨_, rfl⟩
          rw [ha2] at pa1 HM
          clear ha2
          obtain ⟨b1, hb1⟩ : ∃ e, (P q).1 = e := ⟨_, rfl⟩
          rw [hb1] at pb0 HM
          clear hb1
          obtain ⟨b2, hb2⟩ : ∃ e, (P q).2 = e := ⟨_, rfl⟩
          rw [hb2] at pb1 HM
          clear hb2
          obtain ⟨c1, hc1⟩ : ∃ e, (Q l).1 = e := ⟨_, rfl⟩
          rw [hc1] at pc0 HM
          clear hc1
          obtain ⟨c2, hc2⟩ : ∃ e, (Q l).2 = e := ⟨_, rfl⟩
          rw [hc2] at pc1 HM
          clear hc2
          obtain ⟨d1, hd1⟩ : ∃ e, (Q r).1 = e := ⟨_, rfl⟩
          rw [hd1] at pd0 HM
          clear hd1
          obtain ⟨d2, hd2⟩ : ∃ e, (Q r).2 = e := ⟨_, rfl⟩
          rw [hd2] at pd1 HM
          clear hd2
          clear hcl1 hcl2
          go_wp2_with fail
          refine wp_region_seq 25 [] [] (by kernel_rfl) (by kernel_rfl) (by kernel_rfl) (by kernel_rfl) (by kernel_rfl) ?_ ?_ ?_
          · intro r hr; cases hr
          · intro r hr; cases hr
          simp only [List.take_succ_cons, List.take_zero, fillL, Act.put, List.setIfInBounds_toArray, List.set_cons_zero, List.set_cons_succ]
          apply seq_is (by kernel_rfl)
          · intro u wx hb hd
            replace hb := hb.nil
            have hz := hb.size
            (try simp only [World.size_alloc, World.size_setCell] at hz)
            have hz0 : bk1 < wx.heap.size := by omega
            have hz1 : bk2 < wx.heap.size := by omega
            obtain ⟨hc, hf⟩ := bcell hb
            clear hb hz
            simp [depsE, Region.binds, updE, kindOf, Prp.is, Prp.any] at hd
            go_simp
            first | exact ⟨Below.refl _ _, rfl⟩ | rfl
          apply seq_is (by kernel_rfl)
          · intro u wx hb hd
            replace hb := hb.nil
            have hz := hb.size
            (try simp only [World.size_alloc, World.size_setCell] at hz)
            have hz0 : bk1 < wx.heap.size := by omega
            have hz1 : bk2 < wx.heap.size := by omega
            obtain ⟨hc, hf⟩ := bcell hb
            clear hb hz
            simp [depsE, Region.binds, updE, kindOf, Prp.is, Prp.any] at hd
            go_simp
            first | exact ⟨Below.refl _ _, rfl⟩ | rfl
          apply seq_is (by kernel_rfl)
          · intro u wx hb hd
            replace hb := hb.nil
            have hz := hb.size
            (try simp only [World.size_alloc, World.size_setCell] at hz)
            have hz0 : bk1 < wx.heap.size := by omega
            have hz1 : bk2 < wx.heap.size := by omega
            obtain ⟨hc, hf⟩ := bcell hb
            clear hb hz
            simp [depsE, Region.binds, updE, kindOf, Prp.is, Prp.any] at hd
            go_simp
            first | exact ⟨Below.refl _ _, rfl⟩ | rfl
          apply seq_is (by kernel_rfl)
          · intro u wx hb hd
            replace hb := hb.nil
            have hz := hb.size
            (try simp only [World.size_alloc, World.size_setCell] at hz)
            have hz0 : bk1 < wx.heap.size := by omega
            have hz1 : bk2 < wx.heap.size := by omega
            obtain ⟨hc, hf⟩ := bcell hb
            clear hb hz
            simp [depsE, Region.binds, updE, kindOf, Prp.is, Prp.any] at hd
            go_simp
            first | exact ⟨Below.refl _ _, rfl⟩ | rfl
          apply seq_is (by kernel_rfl)
          · intro u wx hb hd
            replace hb := hb.nil
            have hz := hb.size
            (try simp only [World.size_alloc, World.size_setCell] at hz)
            have hz0 : bk1 < wx.heap.size := by omega
            have hz1 : bk2 < wx.heap.size := by omega
            obtain ⟨hc, hf⟩ := bcell hb
            clear hb hz
            simp [depsE, Region.binds, updE, kindOf, Prp.is, Prp.any] at hd
            go_simp
            first | exact ⟨Below.refl _ _, rfl⟩ | rfl
          apply seq_is (by kernel_rfl)
          · intro u wx hb hd
            replace hb := hb.nil
            have hz := hb.size
            (try simp only [World.size_alloc, World.size_setCell] at hz)
            have hz0 : bk1 < wx.heap.size := by omega
            have hz1 : bk2 < wx.heap.size := by omega
            obtain ⟨hc, hf⟩ := bcell hb
            clear hb hz
            simp [depsE, Region.binds, updE, kindOf, Prp.is, Prp.any] at hd
            go_simp
            first | exact ⟨Below.refl _ _, rfl⟩ | rfl
          apply seq_is (by kernel_rfl)
          · intro u wx hb hd
            replace hb := hb.nil
            have hz := hb.size
            (try simp only [World.size_alloc, World.size_setCell] at hz)
            have hz0 : bk1 < wx.heap.size := by omega
            have hz1 : bk2 < wx.heap.size := by omega
            obtain ⟨hc, hf⟩ := bcell hb
            clear hb hz
            simp [depsE, Region.binds, updE, kindOf, Prp.is, Prp.any] at hd
            go_simp
            first | exact ⟨Below.refl _ _, rfl⟩ | rfl
          apply seq_is (by kernel_rfl)
          · intro u wx hb hd
            replace hb := hb.nil
            have hz := hb.size
            (try simp only [World.size_alloc, World.size_setCell] at hz)
            have hz0 : bk1 < wx.heap.size := by omega
            have hz1 : bk2 < wx.heap.size := by omega
            obtain ⟨hc, hf⟩ := bcell hb
            clear hb hz
            simp [depsE, Region.binds, updE, kindOf, Prp.is, Prp.any] at hd
            go_simp
            first | exact ⟨Below.refl _ _, rfl⟩ | rfl
          apply seq_is (by kernel_rfl)
          · intro u wx hb hd
            replace hb := hb.nil
            have hz := hb.size
            (try simp only [World.size_alloc, World.size_setCell] at hz)
            have hz0 : bk1 < wx.heap.size := by omega
            have hz1 : bk2 < wx.heap.size := by omega
            obtain ⟨hc, hf⟩ := bcell hb
            clear hb hz
            simp [depsE, Region.binds, updE, kindOf, Prp.is, Prp.any] at hd
            go_simp
            first | exact ⟨Below.refl _ _, rfl⟩ | rfl
          apply seq_is (by kernel_rfl)
          · intro u wx hb hd
            replace hb := hb.nil
            have hz := hb.size
            (try simp only [World.size_alloc, World.size_setCell] at hz)
            have hz0 : bk1 < wx.heap.size := by omega
            have hz1 : bk2 < wx.heap.size := by omega
            obtain ⟨hc, hf⟩ := bcell hb
            clear hb hz
            simp [depsE, Region.binds, updE, kindOf, Prp.is, Prp.any] at hd
            go_simp
            first | exact ⟨Below.refl _ _, rfl⟩ | rfl
          apply seq_is (by kernel_rfl)
          · intro u wx hb hd
            replace hb := hb.nil
            have hz := hb.size
            (try simp only [World.size_alloc, World.size_setCell] at hz)
            have hz0 : bk1 < wx.heap.size := by omega
            have hz1 : bk2 < wx.heap.size := by omega
            obtain ⟨hc, hf⟩ := bcell hb
            clear hb hz
            simp [depsE, Region.binds, updE, kindOf, Prp.is, Prp.any] at hd
            go_simp
            first | exact ⟨Below.refl _ _, rfl⟩ | rfl
          apply seq_is (by kernel_rfl)
          · intro u wx hb hd
            replace hb := hb.nil
            have hz := hb.size
            (try simp only [World.size_alloc, World.size_setCell] at hz)
            have hz0 : bk1 < wx.heap.size := by omega
            have hz1 : bk2 < wx.heap.size := by omega
            obtain ⟨hc, hf⟩ := bcell hb
            clear hb hz
            simp [depsE, Region.binds, updE, kindOf, Prp.is, Prp.any] at hd
            go_simp
            first | exact ⟨Below.refl _ _, rfl⟩ | rfl
          apply seq_is (by kernel_rfl)
          · intro u wx hb hd
            replace hb := hb.nil
            have hz := hb.size
            (try simp only [World.size_alloc, World.size_setCell] at hz)
            have hz0 : bk1 < wx.heap.size := by omega
            have hz1 : bk2 < wx.heap.size := by omega
            obtain ⟨hc, hf⟩ := bcell hb
            clear hb hz
            simp [depsE, Region.binds, updE, kindOf, Prp.is, Prp.any] at hd
            go_simp
            first | exact ⟨Below.refl _ _, rfl⟩ | rfl
          apply seq_is (by kernel_rfl)
          · intro u wx hb hd
            replace hb := hb.nil
            have hz := hb.size
            (try simp only [World.size_alloc, World.size_setCell] at hz)
            have hz0 : bk1 < wx.heap.size := by omega
            have hz1 : bk2 < wx.heap.size := by omega
            obtain ⟨hc, hf⟩ := bcell hb
            clear hb hz
            simp [depsE, Region.binds, updE, kindOf, Prp.is, Prp.any] at hd
            go_simp
            first | exact ⟨Below.refl _ _, rfl⟩ | rfl
          apply seq_is (by kernel_rfl)
          · intro u wx hb hd
            replace hb := hb.nil
            have hz := hb.size
            (try simp only [World.size_alloc, World.size_setCell] at hz)
            have hz0 : bk1 < wx.heap.size := by omega
            have hz1 : bk2 < wx.heap.size := by omega
            obtain ⟨hc, hf⟩ := bcell hb
            clear hb hz
            simp [depsE, Region.binds, updE, kindOf, Prp.is, Prp.any] at hd
            go_simp
            first | exact ⟨Below.refl _ _, rfl⟩ | rfl
          apply seq_is (by kernel_rfl)
          · intro u wx hb hd
            replace hb := hb.nil
            have hz := hb.size
            (try simp only [World.size_alloc, World.size_setCell] at hz)
            have hz0 : bk1 < wx.heap.size := by omega
            have hz1 : bk2 < wx.heap.size := by omega
            obtain ⟨hc, hf⟩ := bcell hb
            clear hb hz
            simp [depsE, Region.binds, updE, kindOf, Prp.is, Prp.any] at hd
            go_simp
            first | exact ⟨Below.refl _ _, rfl⟩ | rfl
          apply seq_is (by kernel_rfl)
          · intro u wx hb hd
            replace hb := hb.nil
            have hz := hb.size
            (try simp only [World.size_alloc, World.size_setCell] at hz)
            have hz0 : bk1 < wx.heap.size := by omega
            have hz1 : bk2 < wx.heap.size := by omega
            obtain ⟨hc, hf⟩ := bcell hb
            clear hb hz
            simp [depsE, Region.binds, updE, kindOf, Prp.is, Prp.any] at hd
            go_simp
            first | exact ⟨Below.refl _ _, rfl⟩ | rfl
          apply seq_is (by kernel_rfl)
          · intro u wx hb hd
            replace hb := hb.nil
            have hz := hb.size
            (try simp only [World.size_alloc, World.size_setCell] at hz)
            have hz0 : bk1 < wx.heap.size := by omega
            have hz1 : bk2 < wx.heap.size := by omega
            obtain ⟨hc, hf⟩ := bcell hb
            clear hb hz
            simp [depsE, Region.binds, updE, kindOf, Prp.is, Prp.any] at hd
            go_simp
            first | exact ⟨Below.refl _ _, rfl⟩ | rfl
          apply seq_is (by kernel_rfl)
          · intro u wx hb hd
            replace hb := hb.nil
            have hz := hb.size
            (try simp only [World.size_alloc, World.size_setCell] at hz)
            have hz0 : bk1 < wx.heap.size := by omega
            have hz1 : bk2 < wx.heap.size := by omega
            obtain ⟨hc, hf⟩ := bcell hb
            clear hb hz
            simp [depsE, Region.binds, updE, kindOf, Prp.is, Prp.any] at hd
            go_simp
            first | exact ⟨Below.refl _ _, rfl⟩ | rfl
          apply seq_is (by kernel_rfl)
          · intro u wx hb hd
            replace hb := hb.nil
            have hz := hb.size
            (try simp only [World.size_alloc, World.size_setCell] at hz)
            have hz0 : bk1 < wx.heap.size := by omega
            have hz1 : bk2 < wx.heap.size := by omega
            obtain ⟨hc, hf⟩ := bcell hb
            clear hb hz
            simp [depsE, Region.binds, updE, kindOf, Prp.is, Prp.any] at hd
            go_simp
            first | exact ⟨Below.refl _ _, rfl⟩ | rfl
          apply seq_is (by kernel_rfl)
          · intro u wx hb hd
            replace hb := hb.nil
            have hz := hb.size
            (try simp only [World.size_alloc, World.size_setCell] at hz)
            have hz0 : bk1 < wx.heap.size := by omega
            have hz1 : bk2 < wx.heap.size := by omega
            obtain ⟨hc, hf⟩ := bcell hb
            clear hb hz
            simp [depsE, Region.binds, updE, kindOf, Prp.is, Prp.any] at hd
            go_simp
            first | exact ⟨Below.refl _ _, rfl⟩ | rfl
          apply seq_is (by kernel_rfl)
          · intro u wx hb hd
            replace hb := hb.nil
            have hz := hb.size
            (try simp only [World.size_alloc, World.size_setCell] at hz)
            have hz0 : bk1 < wx.heap.size := by omega
            have hz1 : bk2 < wx.heap.size := by omega
            obtain ⟨hc, hf⟩ := bcell hb
            clear hb hz
            simp [depsE, Region.binds, updE, kindOf, Prp.is, Prp.any] at hd
            go_simp
            first | exact ⟨Below.refl _ _, rfl⟩ | rfl
          apply seq_is (by kernel_rfl)
          · intro u wx hb hd
            replace hb := hb.nil
            have hz := hb.size
            (try simp only [World.size_alloc, World.size_setCell] at hz)
            have hz0 : bk1 < wx.heap.size := by omega
            have hz1 : bk2 < wx.heap.size := by omega
            obtain ⟨hc, hf⟩ := bcell hb
            clear hb hz
            simp [depsE, Region.binds, updE, kindOf, Prp.is, Prp.any] at hd
            go_simp
            first | exact ⟨Below.refl _ _, rfl⟩ | rfl
          apply seq_is (by kernel_rfl)
          · intro u wx hb hd
            replace hb := hb.nil
            have hz := hb.size
            (try simp only [World.size_alloc, World.size_setCell] at hz)
            have hz0 : bk1 < wx.heap.size := by omega
            have hz1 : bk2 < wx.heap.size := by omega
            obtain ⟨hc, hf⟩ := bcell hb
            clear hb hz
            simp [depsE, Region.binds, updE, kindOf, Prp.is, Prp.any] at hd
            go_simp
            first | exact ⟨Below.refl _ _, rfl⟩ | rfl
          apply seq_is (by kernel_rfl)
          · intro u wx hb hd
            replace hb := hb.nil
            have hz := hb.size
            (try simp only [World.size_alloc, World.size_setCell] at hz)
            have hz0 : bk1 < wx.heap.size := by omega
            have hz1 : bk2 < wx.heap.size := by omega
            obtain ⟨hc, hf⟩ := bcell hb
            clear hb hz
            simp [depsE, Region.binds, updE, kindOf, Prp.is, Prp.any] at hd
            go_simp
            first | rfl | (go_at_call 55; refine (HM.out _).mono ?_; rintro e w1 ⟨rfl, hb1⟩; first | exact ⟨rfl, hb1⟩ | exact ⟨_, rfl, hb1, rfl⟩)
          intro u w5 hb hE hV hP
          replace hb := hb.nil
          clear hP
          have e0 : u 0 = _ := endE_get hE 0 (by decide) (by simp [kindOf])
          have e1 : u 1 = _ := endE_get hE 1 (by decide) (by simp [kindOf])
          have e2 : u 2 = _ := endE_get hE 2 (by decide) (by simp [kindOf])
          have e3 : u 3 = _ := endE_get hE 3 (by decide) (by simp [kindOf])
          have e4 : u 4 = _ := endE_get hE 4 (by decide) (by simp [kindOf])
          have e5 : u 5 = _ := endE_get hE 5 (by decide) (by simp [kindOf])
          have e6 : u 6 = _ := endE_get hE 6 (by decide) (by simp [kindOf])
          have e7 : u 7 = _ := endE_get hE 7 (by decide) (by simp [kindOf])
          have e8 : u 8 = _ := endE_get hE 8 (by decide) (by simp [kindOf])
          have e9 : u 9 = _ := endE_get hE 9 (by decide) (by simp [kindOf])
          have e10 : u 10 = _ := endE_get hE 10 (by decide) (by simp [kindOf])
          have e11 : u 11 = _ := endE_get hE 11 (by decide) (by simp [kindOf])
          have e12 : u 12 = _ := endE_get hE 12 (by decide) (by simp [kindOf])
          have e13 : u 13 = _ := endE_get hE 13 (by decide) (by simp [kindOf])
          have e14 : u 14 = _ := endE_get hE 14 (by decide) (by simp [kindOf])
          have e15 : u 15 = _ := endE_get hE 15 (by decide) (by simp [kindOf])
          have e16 : u 16 = _ := endE_get hE 16 (by decide) (by simp [kindOf])
          have e17 : u 17 = _ := endE_get hE 17 (by decide) (by simp [kindOf])
          have e18 : u 18 = _ := endE_get hE 18 (by decide) (by simp [kindOf])
          have e19 : u 19 = _ := endE_get hE 19 (by decide) (by simp [kindOf])
          have e20 : u 20 = _ := endE_get hE 20 (by decide) (by simp [kindOf])
          have e21 : u 21 = _ := endE_get hE 21 (by decide) (by simp [kindOf])
          have e22 : u 22 = _ := endE_get hE 22 (by decide) (by simp [kindOf])
          have e23 : u 23 = _ := endE_get hE 23 (by decide) (by simp [kindOf])
          have e24 : u 24 = _ := endE_get hE 24 (by decide) (by simp [kindOf])
          clear hV
          simp only [List.drop_succ_cons, List.drop_zero, List.take_succ_cons, List.take_zero, fillL, Act.put, List.setIfInBounds_toArray, List.set_cons_zero, List.set_cons_succ, e0, e1, e2, e3, e4, e5, e6, e7, e8, e9, e10, e11, e12, e13, e14, e15, e16, e17, e18, e19, e20, e21, e22, e23, e24]
          clear e0 e1 e2 e3 e4 e5 e6 e7 e8 e9 e10 e11 e12 e13 e14 e15 e16 e17 e18 e19 e20 e21 e22 e23 e24 hE
          have HBWw5 := Lib.hid hb
          have hw5 := below_step (w := w2) (by first | assumption | go_grown) hb
          have hzw5 := hb.size
          (try simp only [World.size_alloc, World.size_setCell] at hzw5)
          have hzw50 : bk1 < w5.heap.size := by omega
          have hzw51 : bk2 < w5.heap.size := by omega
          have HHw5 := Lib.hid hb.block
          obtain ⟨hcw5, hfw5⟩ := bcell hb
          clear hb hzw5
          have HB5 := Lib.hid (below_step HB2r.out HBWw5.out)
          clear hcw5 hfw5 HBWw5
          cases bb with
          | true =>
            have HR0 : Hid (R = true) := by
              show _ = _
              rw [← HR.out]
              refine cross_yes hlt hll ?_
              rw [Hq.out, Hr.out]
              exact HBB.out
            go_wp2
            go_returns
            rw [HR0.out]
            exact ⟨rfl, HB5.out⟩
          | false =>
            have hq2 : Hid (∀ k, k < l + 1 → decide (meets (P j) (P (nx n j)) (Q k) (Q (nx m k))) = false) := fun k hk => by
              by_cases e : k = l
              · rw [e, Hq.out, Hr.out]; exact HBB.out
              · exact hq1.out k (by omega)
            go_wp2
            go_roundw
            case rel => exact ⟨l + 1, by omega, by rw [← HL1.out]; rfl, hq2, HB5.out⟩
            case measure => have := HL1.out; simp [intOf]; omega
        · have hq3 : Hid (∀ i, i < j + 1 → ∀ k, k < m → decide (meets (P i) (P (nx n i)) (Q k) (Q (nx m k))) = false) := fun i hi k hk => by
            by_cases e : i = j
            · rw [e]; exact hq1.out k (by omega)
            · exact hq0.out i (by omega) k hk
          go_wp2
          go_roundw
          case rel => exact ⟨j + 1, by omega, by rw [← HJ1.out]; rfl, hq3, HB2r.out⟩
          case measure => have := HJ1.out; simp [intOf]; omega
    · have HR0 : Hid (R = false) := by
        show _ = _
        rw [← HR.out]
        exact cross_no fun i hi k hk => hq0.out i (by omega) k hk
      go_wp2
      go_returns
      rw [HR0.out]
      exact ⟨rfl, HB1r.out⟩
end Go.Proofs.YtgbhhjdmochhpaaDoor
namespace Go.Proofs.YtgbhhjdmochhpaaDoor
open Go.RowKit
/-- the first index at which p says true; m more to look at -/
def firstFrom (p : Nat → Bool) : Nat → Nat → Nat
  | 0, j => j
  | m + 1, j => if p j = true then j else firstFrom p m (j + 1)
theorem firstFrom_spec (p : Nat → Bool) : ∀ m j, j ≤ firstFrom p m j ∧ firstFrom p m j ≤ j + m ∧ (firstFrom p m j < j + m → p (firstFrom p m j) = true) ∧ ∀ i, j ≤ i → i < firstFrom p m j → p i = false
  | 0, j => ⟨Nat.le_refl _, Nat.le_refl _, fun h => absurd h (by simp [firstFrom]), fun i h1 h2 => by simp [firstFrom] at h2; omega⟩
  | m + 1, j => by
    unfold firstFrom
    split
    · rename_i h; exact ⟨Nat.le_refl _, by omega, fun _ => h, fun i h1 h2 => by omega⟩
    · rename_i h
      obtain ⟨h1, h2, h3, h4⟩ := firstFrom_spec p m (j + 1)
      refine ⟨by omega, by omega, fun hl => h3 (by omega), fun i hi hl => ?_⟩
      by_cases hij : i = j
      · subst hij; simpa using h
      · exact h4 i (by omega) hl
theorem firstFrom_hit {p : Nat → Bool} {n j : Nat} (hl : j < n) (h : p j = true) : firstFrom p (n - j) j = j := by
  rw [show n - j = (n - j - 1) + 1 by omega, firstFrom, if_pos h]
theorem firstFrom_miss {p : Nat → Bool} {n j : Nat} (hl : j < n) (h : p j = false) : firstFrom p (n - j) j = firstFrom p (n - (j + 1)) (j + 1) := by
  rw [show n - j = (n - (j + 1)) + 1 by omega, firstFrom, if_neg (by rw [h]; decide)]
theorem firstFrom_end {p : Nat → Bool} {n j : Nat} (hj : j ≤ n) (hl : ¬ j < n) : firstFrom p (n - j) j = n := by
  rw [show n - j = 0 by omega, firstFrom]; omega
end Go.Proofs.YtgbhhjdmochhpaaDoor
namespace Go.Proofs.YtgbhhjdmochhpaaDoor
open Go Go.ChangeShapes Go.WideShapes Go.RowKit Go.ChangeAt
set_option linter.unusedVariables false
set_option linter.unusedSimpArgs false

set_option maxHeartbeats 2000000 in
theorem indexFarP (v : Value) (n : Nat) (P : Nat → Pt) (w : World) (h : PtsAt w v n P) :
    Calls Tryd.prog 35 #[v, .func (.func 59) #[] #[]] w fun e w' => e = .returned (.int .i64 (if firstFrom (fun i => !nearB 32768 (P i)) n 0 < n then (firstFrom (fun i => !nearB 32768 (P i)) n 0 : Int) else -1)) ∧ Below w.heap.size w w' := by
  obtain ⟨oa, cap, rfl, hn, hc, hel⟩ := h.form
  have HEL := Lib.hid hel
  clear h hel
  obtain ⟨F, hF⟩ : ∃ F, firstFrom (fun i => !nearB 32768 (P i)) n 0 = F := ⟨_, rfl⟩
  have HF := Lib.hid hF
  rw [hF]
  obtain ⟨R, hR⟩ : ∃ R, (if F < n then (F : Int) else -1) = R := ⟨_, rfl⟩
  have HR := Lib.hid hR
  rw [hR]
  clear hF hR
  go_enter Tryd.func35, Tryd.ntmps35
  go_wp2
  go_loopw [8] (fun i wr => ∃ j : Nat, j ≤ n ∧ i = .int .i64 j ∧ Hid (firstFrom (fun i => !nearB 32768 (P i)) (n - j) j = F) ∧ Below w.heap.size w wr) (fun i _ => n - (intOf i).toNat)
  case atStart => exact ⟨0, by omega, rfl, HF.out, Below.refl _ _⟩
  case round =>
    obtain ⟨j, hj, rfl, hq, hB⟩ := hrel
    have HBr := Lib.hid hB
    by_cases hlt : j < n
    · obtain ⟨b1, f1, rfl, hbl1, hcl1⟩ := HEL.out j hlt
      have c0 : wr.cell? ⟨b1, f1 + j * 2, none⟩ = some (.int .i64 (P j).1) := (hB.cell (p := ⟨_, _, none⟩) hbl1).trans (hcl1 j hlt).1
      have c1 : wr.cell? ⟨b1, f1 + j * 2 + 1, none⟩ = some (.int .i64 (P j).2) := (hB.cell (p := ⟨_, _, none⟩) hbl1).trans (hcl1 j hlt).2
      have hbr : b1 < wr.heap.size := by have := hB.size; omega
      have k0 : (0 : Int) ≤ (j : Int) := by omega
      have k1 : (j : Int) < (n : Int) := by omega
      clear hcl1 hB
      obtain ⟨bb, hbb⟩ : ∃ b, nearB 32768 (P j) = b := ⟨_, rfl⟩
      have HBB := Lib.hid hbb
      go_wp2_with fail
      (go_at_call 59; refine (farP_any (P j).1 (P j).2 _).mono ?_; rintro e_ w1 ⟨rfl, hb⟩)
      rw [show nearB 32768 ((P j).1, (P j).2) = bb from hbb]
      have hB1 : Below w.heap.size w w1 := below_step HBr.out hb
      clear hbb hb
      cases bb with
      | false =>
        have HR0 : Hid (R = (j : Int)) := by
          show _ = _
          have hFj : F = j := hq.out.symm.trans (firstFrom_hit hlt (by simp [HBB.out]))
          rw [← HR.out, hFj, if_pos hlt]
        go_wp2
        go_returns
        rw [HR0.out]
        exact ⟨rfl, hB1⟩
      | true =>
        have hq2 : Hid (firstFrom (fun i => !nearB 32768 (P i)) (n - (j + 1)) (j + 1) = F) := (firstFrom_miss hlt (by simp [HBB.out])).symm.trans hq.out
        go_wp2
        go_roundw
        case rel => exact ⟨j + 1, by omega, by go_num, hq2, hB1⟩
        case measure => simp [intOf]; omega
    · have HR0 : Hid (R = -1) := by
        show _ = _
        have hFj : F = n := hq.out.symm.trans (firstFrom_end hj hlt)
        rw [← HR.out, hFj, if_neg (by omega)]
      go_wp2
      go_returns
      rw [HR0.out]
      exact ⟨rfl, HBr.out⟩
theorem containsFarP (v : Value) (n : Nat) (P : Nat → Pt) (w : World) (h : PtsAt w v n P) :
    Calls Tryd.prog 16 #[v, .func (.func 59) #[] #[]] w fun e w' => e = .returned (.bool (!allTo (fun i => nearB 32768 (P i)) n)) ∧ Below w.heap.size w w' := by
  obtain ⟨oa, cap, rfl, -, -, -⟩ := h.form
  have H := Lib.hid h
  clear h
  obtain ⟨R, hR⟩ : ∃ R, (if firstFrom (fun i => !nearB 32768 (P i)) n 0 < n then (firstFrom (fun i => !nearB 32768 (P i)) n 0 : Int) else -1) = R := ⟨_, rfl⟩
  have HR := Lib.hid hR
  have HE : Hid (decide (0 ≤ R) = !allTo (fun i => nearB 32768 (P i)) n) := by
    show _ = _
    obtain ⟨s1, s2, s3, s4⟩ := firstFrom_spec (fun i => !nearB 32768 (P i)) n 0
    rw [← hR]
    by_cases hlt : firstFrom (fun i => !nearB 32768 (P i)) n 0 < n
    · rw [if_pos hlt, decide_eq_true (by omega)]
      have h3 := s3 (by omega)
      simp only [Bool.not_eq_true'] at h3
      rw [allTo_no hlt h3]
      rfl
    · rw [if_neg hlt, show decide ((0 : Int) ≤ -1) = false by decide, allTo_iff.2 (fun i hi => by have := s4 i (by omega) (by omega); simpa using this)]
      rfl
  clear hR
  go_enter Tryd.func16, Tryd.ntmps16
  go_wp2_with fail
  (go_at_call 35; refine (indexFarP _ n P _ H.out).mono ?_; rintro e_ w1 ⟨rfl, hb⟩)
  rw [HR.out]
  go_wp2
  go_returns
  rw [← HE.out]
  exact ⟨rfl, hb⟩

set_option maxHeartbeats 2000000 in
theorem indexFarG (v : Value) (n : Nat) (P : Nat → Pt) (w : World) (h : PtsAt w v n P) :
    Calls Tryd.prog 35 #[v, .func (.func 14) #[] #[]] w fun e w' => e = .returned (.int .i64 (if firstFrom (fun i => !nearB 1099511627776 (P i)) n 0 < n then (firstFrom (fun i => !nearB 1099511627776 (P i)) n 0 : Int) else -1)) ∧ Below w.heap.size w w' := by
  obtain ⟨oa, cap, rfl, hn, hc, hel⟩ := h.form
  have HEL := Lib.hid hel
  clear h hel
  obtain ⟨F, hF⟩ : ∃ F, firstFrom (fun i => !nearB 1099511627776 (P i)) n 0 = F := ⟨_, rfl⟩
  have HF := Lib.hid hF
  rw [hF]
  obtain ⟨R, hR⟩ : ∃ R, (if F < n then (F : Int) else -1) = R := ⟨_, rfl⟩
  have HR := Lib.hid hR
  rw [hR]
  clear hF hR
  go_enter Tryd.func35, Tryd.ntmps35
  go_wp2
  go_loopw [8] (fun i wr => ∃ j : Nat, j ≤ n ∧ i = .int .i64 j ∧ Hid (firstFrom (fun i => !nearB 1099511627776 (P i)) (n - j) j = F) ∧ Below w.heap.size w wr) (fun i _ => n - (intOf i).toNat)
  case atStart => exact ⟨0, by omega, rfl, HF.out, Below.refl _ _⟩
  case round =>
    obtain ⟨j, hj, rfl, hq, hB⟩ := hrel
    have HBr := Lib.hid hB
    by_cases hlt : j < n
    · obtain ⟨b1, f1, rfl, hbl1, hcl1⟩ := HEL.out j hlt
      have c0 : wr.cell? ⟨b1, f1 + j * 2, none⟩ = some (.int .i64 (P j).1) := (hB.cell (p := ⟨_, _, none⟩) hbl1).trans (hcl1 j hlt).1
      have c1 : wr.cell? ⟨b1, f1 + j * 2 + 1, none⟩ = some (.int .i64 (P j).2) := (hB.cell (p := ⟨_, _, none⟩) hbl1).trans (hcl1 j hlt).2
      have hbr : b1 < wr.heap.size := by have := hB.size; omega
      have k0 : (0 : Int) ≤ (j : Int) := by omega
      have k1 : (j : Int) < (n : Int) := by omega
      clear hcl1 hB
      obtain ⟨bb, hbb⟩ : ∃ b, nearB 1099511627776 (P j) = b := ⟨_, rfl⟩
      have HBB := Lib.hid hbb
      go_wp2_with fail
      (go_at_call 14; refine (farG_any (P j).1 (P j).2 _).mono ?_; rintro e_ w1 ⟨rfl, hb⟩)
      rw [show nearB 1099511627776 ((P j).1, (P j).2) = bb from hbb]
      have hB1 : Below w.heap.size w w1 := below_step HBr.out hb
      clear hbb hb
      cases bb with
      | false =>
        have HR0 : Hid (R = (j : Int)) := by
          show _ = _
          have hFj : F = j := hq.out.symm.trans (firstFrom_hit hlt (by simp [HBB.out]))
          rw [← HR.out, hFj, if_pos hlt]
        go_wp2
        go_returns
        rw [HR0.out]
        exact ⟨rfl, hB1⟩
      | true =>
        have hq2 : Hid (firstFrom (fun i => !nearB 1099511627776 (P i)) (n - (j + 1)) (j + 1) = F) := (firstFrom_miss hlt (by simp [HBB.out])).symm.trans hq.out
        go_wp2
        go_roundw
        case rel => exact ⟨j + 1, by omega, by go_num, hq2, hB1⟩
        case measure => simp [intOf]; omega
    · have HR0 : Hid (R = -1) := by
        show _ = _
        have hFj : F = n := hq.out.symm.trans (firstFrom_end hj hlt)
        rw [← HR.out, hFj, if_neg (by omega)]
      go_wp2
      go_returns
      rw [HR0.out]
      exact ⟨rfl, HBr.out⟩
theorem containsFarG (v : Value) (n : Nat) (P : Nat → Pt) (w : World) (h : PtsAt w v n P) :
    Calls Tryd.prog 16 #[v, .func (.func 14) #[] #[]] w fun e w' => e = .returned (.bool (!allTo (fun i => nearB 1099511627776 (P i)) n)) ∧ Below w.heap.size w w' := by
  obtain ⟨oa, cap, rfl, -, -, -⟩ := h.form
  have H := Lib.hid h
  clear h
  obtain ⟨R, hR⟩ : ∃ R, (if firstFrom (fun i => !nearB 1099511627776 (P i)) n 0 < n then (firstFrom (fun i => !nearB 1099511627776 (P i)) n 0 : Int) else -1) = R := ⟨_, rfl⟩
  have HR := Lib.hid hR
  have HE : Hid (decide (0 ≤ R) = !allTo (fun i => nearB 1099511627776 (P i)) n) := by
    show _ = _
    obtain ⟨s1, s2, s3, s4⟩ := firstFrom_spec (fun i => !nearB 1099511627776 (P i)) n 0
    rw [← hR]
    by_cases hlt : firstFrom (fun i => !nearB 1099511627776 (P i)) n 0 < n
    · rw [if_pos hlt, decide_eq_true (by omega)]
      have h3 := s3 (by omega)
      simp only [Bool.not_eq_true'] at h3
      rw [allTo_no hlt h3]
      rfl
    · rw [if_neg hlt, show decide ((0 : Int) ≤ -1) = false by decide, allTo_iff.2 (fun i hi => by have := s4 i (by omega) (by omega); simpa using this)]
      rfl
  clear hR
  go_enter Tryd.func16, Tryd.ntmps16
  go_wp2_with fail
  (go_at_call 35; refine (indexFarG _ n P _ H.out).mono ?_; rintro e_ w1 ⟨rfl, hb⟩)
  rw [HR.out]
  go_wp2
  go_returns
  rw [← HE.out]
  exact ⟨rfl, hb⟩

set_option maxHeartbeats 2000000 in
theorem nears_any (v : Value) (n : Nat) (P : Nat → Pt) (w : World) (h : PtsAt w v n P) :
    Calls Tryd.prog 53 #[v] w fun e w' => e = .returned (.bool (allTo (fun i => nearB 32768 (P i)) n)) ∧ Below w.heap.size w w' := by
  obtain ⟨oa, cap, rfl, hn, hc, hel⟩ := h.form
  have HEL := Lib.hid hel
  clear h hel
  obtain ⟨R, hR⟩ : ∃ R, allTo (fun i => nearB 32768 (P i)) n = R := ⟨_, rfl⟩
  have HR := Lib.hid hR
  rw [hR]
  clear hR
  go_enter Tryd.func53, Tryd.ntmps53
  go_wp2
  go_loopw [3] (fun i wr => ∃ j : Nat, j ≤ n ∧ i = .int .i64 j ∧ Hid (∀ k, k < j → nearB 32768 (P k) = true) ∧ Below w.heap.size w wr) (fun i _ => n - (intOf i).toNat)
  case atStart => exact ⟨0, by omega, rfl, fun k hk => absurd hk (by omega), Below.refl _ _⟩
  case round =>
    obtain ⟨j, hj, rfl, hq, hB⟩ := hrel
    have HBr := Lib.hid hB
    by_cases hlt : j < n
    · obtain ⟨b1, f1, rfl, hbl1, hcl1⟩ := HEL.out j hlt
      have c0 : wr.cell? ⟨b1, f1 + j * 2, none⟩ = some (.int .i64 (P j).1) := (hB.cell (p := ⟨_, _, none⟩) hbl1).trans (hcl1 j hlt).1
      have c1 : wr.cell? ⟨b1, f1 + j * 2 + 1, none⟩ = some (.int .i64 (P j).2) := (hB.cell (p := ⟨_, _, none⟩) hbl1).trans (hcl1 j hlt).2
      have hbr : b1 < wr.heap.size := by have := hB.size; omega
      have k0 : (0 : Int) ≤ (j : Int) := by omega
      have k1 : (j : Int) < (n : Int) := by omega
      clear hcl1 hB
      obtain ⟨bb, hbb⟩ : ∃ b, nearB 32768 (P j) = b := ⟨_, rfl⟩
      have HBB := Lib.hid hbb
      go_wp2_with fail
      (go_at_call 56; refine (near12_any (P j).1 (P j).2 _).mono ?_; rintro e_ w1 ⟨rfl, hb⟩)
      rw [show nearB 32768 ((P j).1, (P j).2) = bb from hbb]
      have hB1 : Below w.heap.size w w1 := below_step HBr.out hb
      clear hbb hb
      cases bb with
      | false =>
        have HR0 : Hid (R = false) := by
          show _ = _
          rw [← HR.out]
          exact allTo_no hlt HBB.out
        go_wp2
        go_returns
        rw [HR0.out]
        exact ⟨rfl, hB1⟩
      | true =>
        have hq2 : Hid (∀ k, k < j + 1 → nearB 32768 (P k) = true) := fun k hk => by
          by_cases e : k = j
          · rw [e]; exact HBB.out
          · exact hq.out k (by omega)
        go_wp2
        go_roundw
        case rel => exact ⟨j + 1, by omega, by go_num, hq2, hB1⟩
        case measure => simp [intOf]; omega
    · have HR0 : Hid (R = true) := by
        show _ = _
        rw [← HR.out]
        exact allTo_iff.2 (fun i hi => hq.out i (by omega))
      go_wp2
      go_returns
      rw [HR0.out]
      exact ⟨rfl, HBr.out⟩
end Go.Proofs.YtgbhhjdmochhpaaDoor
namespace Go.Proofs.YtgbhhjdmochhpaaDoor
set_option linter.unusedVariables false
set_option linter.unusedSimpArgs false

/-- a simple polygon with bounded corners -/
structure Pol (M : Int) (n : Nat) (P : Nat → Pt) : Prop where
  n3 : 3 ≤ n
  nr : ∀ i, i < n → (-M ≤ (P i).1 ∧ (P i).1 ≤ M) ∧ -M ≤ (P i).2 ∧ (P i).2 ≤ M
  ne : ∀ i, i < n → P i ≠ P (nx n i)
  nm : ∀ i k, i < n → k < n → i ≠ k → nx n i ≠ k → nx n k ≠ i → ¬ meets (P i) (P (nx n i)) (P k) (P (nx n k))
  nf : ∀ i, i < n → ¬ onS (P i) (P (nx n i)) (P (nx n (nx n i))) ∧ ¬ onS (P (nx n i)) (P (nx n (nx n i))) (P i)
def sc (K L : Int) (p : Pt) : Pt := (2 * L * p.1, 2 * (K * p.2 + p.1))
section
variable {K L : Int}
theorem crs_sc (a b c : Pt) : crs (sc K L a) (sc K L b) (sc K L c) = (4 * L * K) * crs a b c := by simp only [crs, sc]; grind
theorem pos_of_mul {c x : Int} (hc : 0 < c) (h : 0 < c * x) : 0 < x := by
  apply Classical.byContradiction
  intro hn
  have := Int.mul_nonneg (Int.le_of_lt hc) (show 0 ≤ -x by omega)
  rw [Int.mul_neg] at this
  omega
theorem fac_pos (hK : 0 < K) (hL : 0 < L) : 0 < 4 * L * K := Int.mul_pos (by omega) hK
theorem crs_sc0 (hK : 0 < K) (hL : 0 < L) {a b c : Pt} (h : crs (sc K L a) (sc K L b) (sc K L c) = 0) : crs a b c = 0 := by
  rw [crs_sc] at h
  have := fac_pos hK hL
  rcases Int.mul_eq_zero.1 h with h | h <;> omega
theorem crs_sc_pos (hK : 0 < K) (hL : 0 < L) {a b c : Pt} : 0 < crs (sc K L a) (sc K L b) (sc K L c) ↔ 0 < crs a b c := by
  rw [crs_sc]
  have hf := fac_pos hK hL
  constructor
  · intro h
    exact pos_of_mul hf h
  · intro h
    exact Int.mul_pos hf h
theorem crs_sc_neg (hK : 0 < K) (hL : 0 < L) {a b c : Pt} : crs (sc K L a) (sc K L b) (sc K L c) < 0 ↔ crs a b c < 0 := by
  have h1 := crs_sc_pos hK hL (a := b) (b := a) (c := c)
  rw [crs_swap, crs_swap a b c] at h1
  constructor
  · intro h; have := h1.1 (by omega); omega
  · intro h; have := h1.2 (by omega); omega
theorem bt_mul {c a b q : Int} (hc : 0 < c) (h : bt (c * a) (c * b) (c * q)) : bt a b q := by
  unfold bt at h ⊢
  rcases h with ⟨h1, h2⟩ | ⟨h1, h2⟩
  · exact .inl ⟨Int.le_of_mul_le_mul_left h1 hc, Int.le_of_mul_le_mul_left h2 hc⟩
  · exact .inr ⟨Int.le_of_mul_le_mul_left h1 hc, Int.le_of_mul_le_mul_left h2 hc⟩
theorem onS_sc (hK : 0 < K) (hL : 0 < L) {a b q : Pt} (h : onS (sc K L a) (sc K L b) (sc K L q)) : onS a b q := by
  obtain ⟨h1, h2, h3⟩ := h
  have e := crs_sc0 hK hL h1
  have x : bt a.1 b.1 q.1 := bt_mul (c := 2 * L) (by omega) h2
  have y := bt_mul (c := 2) (by omega) h3
  refine ⟨e, x, ?_⟩
  by_cases c : a.1 = b.1
  · have hq : q.1 = a.1 := by unfold bt at x; omega
    refine bt_mul hK ?_
    rw [← c, hq] at y
    unfold bt at y ⊢
    omega
  · unfold bt at x
    refine wavg (A := a.1 - q.1) (B := b.1 - q.1) (by omega) (by omega) ?_
    simp only [crs] at e
    grind
theorem meets_sc (hK : 0 < K) (hL : 0 < L) {a b c d : Pt} (h : meets (sc K L a) (sc K L b) (sc K L c) (sc K L d)) : meets a b c d := by
  rcases h with h | h | h | h | ⟨h1, h2⟩
  · exact .inl (onS_sc hK hL h)
  · exact .inr (.inl (onS_sc hK hL h))
  · exact .inr (.inr (.inl (onS_sc hK hL h)))
  · exact .inr (.inr (.inr (.inl (onS_sc hK hL h))))
  · refine .inr (.inr (.inr (.inr ⟨?_, ?_⟩)))
    · unfold opp at h1 ⊢
      rw [crs_sc_pos hK hL, crs_sc_pos hK hL, crs_sc_neg hK hL, crs_sc_neg hK hL] at h1
      exact h1
    · unfold opp at h2 ⊢
      rw [crs_sc_pos hK hL, crs_sc_pos hK hL, crs_sc_neg hK hL, crs_sc_neg hK hL] at h2
      exact h2
theorem lev_sc {p q : Pt} (h : p.1 - q.1 < K ∧ q.1 - p.1 < K) : (sc K L q).2 < (sc K L p).2 ↔ (q.2 < p.2 ∨ (p.2 = q.2 ∧ q.1 < p.1)) := by
  show 2 * (K * q.2 + q.1) < 2 * (K * p.2 + p.1) ↔ _
  have hd : K * p.2 - K * q.2 = K * (p.2 - q.2) := by grind
  rcases Int.lt_trichotomy q.2 p.2 with c | c | c
  · have := Int.mul_le_mul_of_nonneg_left (show 1 ≤ p.2 - q.2 by omega) (show 0 ≤ K by omega)
    omega
  · rw [c]; omega
  · have h2 : K * q.2 - K * p.2 = K * (q.2 - p.2) := by grind
    have := Int.mul_le_mul_of_nonneg_left (show 1 ≤ q.2 - p.2 by omega) (show 0 ≤ K by omega)
    omega
def wedge (q p : Pt) : Bool := decide (p.2 = q.2 ∧ q.1 < p.1)
theorem ray_sc (hK : 0 < K) (hL : 0 < L) {a b q : Pt} (ha : a.1 - q.1 < K ∧ q.1 - a.1 < K) (hb : b.1 - q.1 < K ∧ q.1 - b.1 < K) (hab : b.1 - a.1 < K ∧ a.1 - b.1 < K) (h : ¬ onS a b q) : (ray a b q != ray (sc K L a) (sc K L b) (sc K L q)) = (wedge q a != wedge q b) := by
  have key : ∀ {a b : Pt}, a.1 - q.1 < K ∧ q.1 - a.1 < K → b.1 - q.1 < K ∧ q.1 - b.1 < K → b.1 - a.1 < K ∧ a.1 - b.1 < K → ¬ onS a b q → (a.2 = q.2 ∧ q.1 < a.1) → ¬ (b.2 = q.2 ∧ q.1 < b.1) → (ray a b q != ray (sc K L a) (sc K L b) (sc K L q)) = true := by
    intro a b ha hb hab h wa wb
    unfold ray
    rw [show decide ((sc K L q).2 < (sc K L a).2) = true from decide_eq_true ((lev_sc ha).2 (.inr wa)), show decide (q.2 < a.2) = false from decide_eq_false (by omega), show decide (0 < crs (sc K L a) (sc K L b) (sc K L q)) = decide (0 < crs a b q) from decide_eq_decide.2 (crs_sc_pos hK hL)]
    have e : crs a b q = (b.2 - a.2) * (a.1 - q.1) := by simp only [crs]; rw [wa.1]; grind
    by_cases c : q.2 < b.2
    · rw [show decide ((sc K L q).2 < (sc K L b).2) = true from decide_eq_true ((lev_sc hb).2 (.inl c)), decide_eq_true c, show decide (a.2 < b.2) = true from decide_eq_true (by omega), show decide (0 < crs a b q) = true from decide_eq_true (by rw [e]; exact Int.mul_pos (by omega) (by omega))]
      simp
    · rw [show decide ((sc K L q).2 < (sc K L b).2) = false from decide_eq_false (fun hh => by rcases (lev_sc hb).1 hh with hh | hh; exact c hh; exact wb hh), decide_eq_false c, show decide (0 < crs a b q) = false from decide_eq_false (by
        rw [e]
        have := Int.mul_nonneg (show 0 ≤ a.2 - b.2 by omega) (show 0 ≤ a.1 - q.1 by omega)
        have e2 : (b.2 - a.2) * (a.1 - q.1) = -((a.2 - b.2) * (a.1 - q.1)) := by grind
        omega), show decide ((sc K L a).2 < (sc K L b).2) = false from decide_eq_false (fun hh => by
        rcases (lev_sc hab).1 hh with hh | hh
        · omega
        · exact wb (by omega))]
      simp
  by_cases wa : a.2 = q.2 ∧ q.1 < a.1 <;> by_cases wb : b.2 = q.2 ∧ q.1 < b.1
  · unfold ray wedge
    rw [decide_eq_true ((lev_sc (L := L) ha).2 (.inr wa)), decide_eq_true ((lev_sc (L := L) hb).2 (.inr wb)), decide_eq_false (show ¬ q.2 < a.2 by omega), decide_eq_false (show ¬ q.2 < b.2 by omega)]
    simp [wa, wb]
  · rw [key ha hb hab h wa wb]
    unfold wedge
    rw [decide_eq_true wa, decide_eq_false wb]
    rfl
  · have hs : ¬ onS b a q := fun x => h (onS_swap.1 x)
    have hs2 : ¬ onS (sc K L a) (sc K L b) (sc K L q) := fun x => h (onS_sc hK hL x)
    have := key hb ha ⟨hab.2, hab.1⟩ hs wb wa
    rw [ray_swap h, ray_swap hs2] at this
    rw [this]
    unfold wedge
    rw [decide_eq_false wa, decide_eq_true wb]
    rfl
  · have la : decide ((sc K L q).2 < (sc K L a).2) = decide (q.2 < a.2) := by
      rw [decide_eq_decide, lev_sc ha]
      exact ⟨fun h => by rcases h with h | h; exact h; exact absurd h wa, .inl⟩
    have lb : decide ((sc K L q).2 < (sc K L b).2) = decide (q.2 < b.2) := by
      rw [decide_eq_decide, lev_sc hb]
      exact ⟨fun h => by rcases h with h | h; exact h; exact absurd h wb, .inl⟩
    have lc : decide (0 < crs (sc K L a) (sc K L b) (sc K L q)) = decide (0 < crs a b q) := decide_eq_decide.2 (crs_sc_pos hK hL)
    unfold ray wedge
    rw [la, lb, lc, decide_eq_false wa, decide_eq_false wb]
    by_cases c1 : q.2 < a.2 <;> by_cases c2 : q.2 < b.2
    · simp [c1, c2]
    · have d1 : ¬ a.2 < b.2 := by omega
      have d2 : ¬ (sc K L a).2 < (sc K L b).2 := fun hh => by rcases (lev_sc hab).1 hh with hh | hh <;> omega
      simp [c1, c2, d1, d2]
    · have d1 : a.2 < b.2 := by omega
      have d2 : (sc K L a).2 < (sc K L b).2 := (lev_sc hab).2 (.inl d1)
      simp [c1, c2, d1, d2]
    · simp [c1, c2]
theorem exists_L : ∀ N : Nat, ∃ L : Int, 0 < L ∧ ∀ d : Int, d ≠ 0 → d.natAbs ≤ N → d ∣ L
  | 0 => ⟨1, by decide, fun d hd h => by omega⟩
  | N + 1 => by
    obtain ⟨L, h1, h2⟩ := exists_L N
    refine ⟨L * ((N : Int) + 1), Int.mul_pos h1 (by omega), fun d hd h => ?_⟩
    by_cases c : d.natAbs ≤ N
    · exact Int.dvd_trans (h2 d hd c) (Int.dvd_mul_right _ _)
    · refine Int.dvd_trans ?_ (Int.dvd_mul_left _ _)
      rcases Int.natAbs_eq d with e | e
      · rw [e, show d.natAbs = N + 1 by omega]; exact Int.dvd_refl _
      · rw [e, show d.natAbs = N + 1 by omega]
        exact Int.neg_dvd.2 (Int.dvd_refl _)
def slo (K L : Int) (a b : Pt) : Int := (b.1 - a.1) * (L / (K * (b.2 - a.2) + (b.1 - a.1)))
theorem lev_ne {a b : Pt} (hK : 0 < K) (h : b.1 - a.1 < K ∧ a.1 - b.1 < K) (hne : a ≠ b) : K * (b.2 - a.2) + (b.1 - a.1) ≠ 0 := by
  intro e
  rcases Int.lt_trichotomy a.2 b.2 with c | c | c
  · have := Int.mul_le_mul_of_nonneg_left (show 1 ≤ b.2 - a.2 by omega) (show 0 ≤ K by omega)
    omega
  · rw [c, Int.sub_self, Int.mul_zero] at e
    exact hne (Prod.ext (by omega) c)
  · have h2 : K * (b.2 - a.2) = -(K * (a.2 - b.2)) := by grind
    have := Int.mul_le_mul_of_nonneg_left (show 1 ≤ a.2 - b.2 by omega) (show 0 ≤ K by omega)
    omega
theorem Pol.gen {M : Int} {n : Nat} {P : Nat → Pt} (h : Pol M n P) (hM : 0 ≤ M) (hK : 2 * M < K) (hL : 0 < L) (hdiv : ∀ i, i < n → (K * ((P (nx n i)).2 - (P i).2) + ((P (nx n i)).1 - (P i).1)) ∣ L) : Gen n (fun i => sc K L (P i)) (fun i => slo K L (P i) (P (nx n i))) where
  n3 := h.n3
  ev := fun i hi => by show (2 * _) % 2 = 0; omega
  lv := fun i hi => by
    have h1 := h.nr i hi
    have h2 := h.nr _ (nx_lt (i := i) (by omega : 0 < n))
    have := lev_ne (K := K) (by omega) (by omega) (h.ne i hi)
    show 2 * (K * (P i).2 + (P i).1) ≠ 2 * (K * (P (nx n i)).2 + (P (nx n i)).1)
    intro e
    exact this (by grind)
  sl := fun i hi => by
    show 2 * L * (P (nx n i)).1 - 2 * L * (P i).1 = slo K L (P i) (P (nx n i)) * (2 * (K * (P (nx n i)).2 + (P (nx n i)).1) - 2 * (K * (P i).2 + (P i).1))
    unfold slo
    have := Int.ediv_mul_cancel (hdiv i hi)
    grind
  nm := fun i k hi hk h1 h2 h3 hm => h.nm i k hi hk h1 h2 h3 (meets_sc (by omega) hL hm)
  nf := fun i hi => ⟨fun x => (h.nf i hi).1 (onS_sc (by omega) hL x), fun x => (h.nf i hi).2 (onS_sc (by omega) hL x)⟩
theorem area_sc (n : Nat) (P : Nat → Pt) : area2 n (fun i => sc K L (P i)) = (4 * L * K) * area2 n P := by
  unfold area2
  rw [← sumZ_mul]
  exact sumZ_congr fun i _ => by simp only [sc]; grind
theorem par_sc {M : Int} {n : Nat} {P : Nat → Pt} {q : Pt} (hM : 0 ≤ M) (hK : 2 * M < K) (hL : 0 < L) (hP : ∀ i, i < n → (-M ≤ (P i).1 ∧ (P i).1 ≤ M) ∧ -M ≤ (P i).2 ∧ (P i).2 ≤ M) (hq : -M ≤ q.1 ∧ q.1 ≤ M) (ho : Off n P q) : par n (fun i => sc K L (P i)) (sc K L q) = par n P q :=
  (par_of (fun i => wedge q (P i)) (fun i hi => by
    have h1 := hP i hi
    have h2 := hP _ (nx_lt (i := i) (by omega : 0 < n))
    exact ray_sc (by omega) hL (by omega) (by omega) (by omega) (ho i hi))).symm
end
/-- the parity of the corners of a contour that does not meet another one -/
theorem par_const {n m : Nat} {P H : Nat → Pt} (hm : 0 < m) (h : ∀ i j, i < m → j < n → ¬ meets (H i) (H (nx m i)) (P j) (P (nx n j))) : ∀ i, i < m → par n P (H i) = par n P (H 0)
  | 0, _ => rfl
  | i + 1, hi => by
    rw [← par_const hm h i (by omega)]
    have hx : nx m i = i + 1 := by rw [nx_val (by omega), if_pos hi]
    have := par_seg (n := n) (P := P) (u := H i) (v := H (nx m i)) (fun j hj => h i j (by omega) hj)
    rw [hx] at this
    exact this.symm
theorem off_of {n m : Nat} {P H : Nat → Pt} (h : ∀ i j, i < m → j < n → ¬ meets (H i) (H (nx m i)) (P j) (P (nx n j))) {i : Nat} (hi : i < m) : Off n P (H i) := fun j hj ho => h i j hi hj (.inr (.inr (.inl ho)))
/-- a point inside has a corner to its right -/
theorem par_right {n : Nat} {P : Nat → Pt} {q : Pt} (ho : Off n P q) (h : par n P q = true) : ∃ i, i < n ∧ q.1 < (P i).1 := by
  apply Classical.byContradiction
  intro hc
  have hP : ∀ i, i < n → (P i).1 ≤ q.1 := fun i hi => by
    apply Classical.byContradiction
    intro h'
    exact hc ⟨i, hi, by omega⟩
  obtain ⟨i, hi, hr⟩ := xor_true h
  have ha := hP i hi
  have hb := hP (nx n i) (nx_lt (by omega))
  unfold ray at hr
  simp only [Bool.and_eq_true, bne_iff_ne, ne_eq, beq_iff_eq] at hr
  obtain ⟨h1, h2⟩ := hr
  by_cases c1 : q.2 < (P i).2 <;> by_cases c2 : q.2 < (P (nx n i)).2 <;> simp [c1, c2] at h1
  · have k1 := left_edge (a := P (nx n i)) (b := P i) (q := q) (by omega) hb ha
    have k2 : crs (P (nx n i)) (P i) q ≠ 0 := fun e => ho i hi (onS_swap.1 (on_lev e (by omega)))
    rw [crs_swap] at k1 k2
    have k3 : ¬ (P i).2 < (P (nx n i)).2 := by omega
    have k4 : 0 < crs (P i) (P (nx n i)) q := by omega
    simp [k3, k4] at h2
  · have k1 := left_edge (a := P i) (b := P (nx n i)) (q := q) (by omega) ha hb
    have k3 : (P i).2 < (P (nx n i)).2 := by omega
    have k4 : ¬ 0 < crs (P i) (P (nx n i)) q := by omega
    simp [k3, k4] at h2
theorem max_at (f : Nat → Int) : ∀ n, 0 < n → ∃ i, i < n ∧ ∀ j, j < n → f j ≤ f i
  | 0, h => by omega
  | 1, _ => ⟨0, by omega, fun j hj => by
    obtain rfl : j = 0 := by omega
    exact Int.le_refl _⟩
  | n + 2, _ => by
    obtain ⟨i, hi, h⟩ := max_at f (n + 1) (by omega)
    by_cases c : f i ≤ f (n + 1)
    · exact ⟨n + 1, by omega, fun j hj => by
        by_cases e : j = n + 1
        · rw [e]; exact Int.le_refl _
        · exact Int.le_trans (h j (by omega)) c⟩
    · exact ⟨i, by omega, fun j hj => by
        by_cases e : j = n + 1
        · rw [e]; omega
        · exact h j (by omega)⟩
theorem meets_flip {n m : Nat} {P H : Nat → Pt} (h : ∀ i j, i < m → j < n → ¬ meets (H i) (H (nx m i)) (P j) (P (nx n j))) : ∀ i j, i < n → j < m → ¬ meets (P i) (P (nx n i)) (H j) (H (nx m j)) := fun i j hi hj hc => h j i hj hi (meets_comm.1 hc)
/-- what is inside does not hold what is outside -/
theorem not_inside {n m : Nat} {P H : Nat → Pt} (hn : 0 < n) (h : ∀ i j, i < m → j < n → ¬ meets (H i) (H (nx m i)) (P j) (P (nx n j))) (hin : ∀ i, i < m → par n P (H i) = true) : ∀ i, i < n → par m H (P i) = false := by
  have h' := meets_flip h
  intro i hi
  rw [par_const hn h' i hi]
  cases e : par m H (P 0) with
  | false => rfl
  | true =>
    exfalso
    obtain ⟨i0, hi0, hmax⟩ := max_at (fun i => (P i).1) n hn
    obtain ⟨k, hk, h1⟩ := par_right (off_of h' hi0) (show par m H (P i0) = true by rw [par_const hn h' i0 hi0, e])
    obtain ⟨i1, hi1, h2⟩ := par_right (off_of h hk) (hin k hk)
    have := hmax i1 hi1
    omega
/-- THE AREA OF A SHAPE: a contour and others in it, apart from each other -/
theorem shape_pos {M : Int} (hM : 0 ≤ M) {k : Nat} {cn : Nat → Nat} {CP : Nat → Nat → Pt} (h0 : 0 < k) (hp : ∀ c, c < k → Pol M (cn c) (CP c)) (hnm : ∀ c d, c < k → d < k → c ≠ d → ∀ i j, i < cn c → j < cn d → ¬ meets (CP c i) (CP c (nx (cn c) i)) (CP d j) (CP d (nx (cn d) j)))
    (a0 : 0 < area2 (cn 0) (CP 0)) (a1 : ∀ c, 0 < c → c < k → area2 (cn c) (CP c) < 0) (i0 : ∀ c, 0 < c → c < k → ∀ i, i < cn c → par (cn 0) (CP 0) (CP c i) = true)
    (i1 : ∀ c d, 0 < c → c < k → 0 < d → d < k → c ≠ d → ∀ i, i < cn c → par (cn d) (CP d) (CP c i) = false) : 0 < sumZ (fun c => area2 (cn c) (CP c)) k := by
  obtain ⟨K, hK⟩ : ∃ K : Int, K = 2 * M + 1 := ⟨_, rfl⟩
  obtain ⟨L, hL, hdiv⟩ := exists_L (K * (2 * M) + 2 * M).toNat
  have bd : ∀ c, c < k → ∀ i, i < cn c → (-M ≤ (CP c i).1 ∧ (CP c i).1 ≤ M) ∧ -M ≤ (CP c i).2 ∧ (CP c i).2 ≤ M := fun c hc => (hp c hc).nr
  have ps : ∀ c, c < k → 0 < cn c := fun c hc => by have := (hp c hc).n3; omega
  have hgen : ∀ c, c < k → Gen (cn c) (fun i => sc K L (CP c i)) (fun i => slo K L (CP c i) (CP c (nx (cn c) i))) := fun c hc => (hp c hc).gen hM (by omega) hL (fun i hi => by
    have b1 := bd c hc i hi
    have b2 := bd c hc _ (nx_lt (i := i) (ps c hc))
    refine hdiv _ (lev_ne (by omega) (by omega) ((hp c hc).ne i hi)) ?_
    have e1 := Int.mul_le_mul_of_nonneg_left (show (CP c (nx (cn c) i)).2 - (CP c i).2 ≤ 2 * M by omega) (show 0 ≤ K by omega)
    have e2 := Int.mul_le_mul_of_nonneg_left (show (CP c i).2 - (CP c (nx (cn c) i)).2 ≤ 2 * M by omega) (show 0 ≤ K by omega)
    have e3 : K * ((CP c i).2 - (CP c (nx (cn c) i)).2) = -(K * ((CP c (nx (cn c) i)).2 - (CP c i).2)) := by grind
    omega)
  have g : Apart k cn (fun c i => sc K L (CP c i)) (fun c i => slo K L (CP c i) (CP c (nx (cn c) i))) := ⟨hgen, fun c d hc hd hcd i j hi hj hm => hnm c d hc hd hcd i j hi hj (meets_sc (by omega) hL hm)⟩
  have hf := fac_pos (K := K) (L := L) (by omega) hL
  have tr : ∀ c d, c < k → d < k → c ≠ d → ∀ i, i < cn c → par (cn d) (fun j => sc K L (CP d j)) (sc K L (CP c i)) = par (cn d) (CP d) (CP c i) := fun c d hc hd hcd i hi =>
    par_sc hM (by omega) hL (bd d hd) (bd c hc i hi).1 (off_of (hnm c d hc hd hcd) hi)
  have := g.total h0 (by
    show 0 < area2 (cn 0) (fun i => sc K L (CP 0 i))
    rw [area_sc]
    exact Int.mul_pos hf a0) (fun c hc hck => by
    show area2 (cn c) (fun i => sc K L (CP c i)) < 0
    rw [area_sc]
    have := Int.mul_pos hf (show 0 < - area2 (cn c) (CP c) by have := a1 c hc hck; omega)
    rw [Int.mul_neg] at this
    omega) (fun c hc hck i hi => (tr c 0 hck h0 (by omega) i hi).trans (i0 c hc hck i hi)) (fun c d hc hd0 hd hcd i hi => (tr c d hc hd hcd i hi).trans (by
    by_cases e : c = 0
    · subst e
      exact not_inside (ps 0 h0) (hnm d 0 hd h0 (by omega)) (i0 d hd0 hd) i hi
    · exact i1 c d (by omega) hc hd0 hd hcd i hi))
  rw [sumZ_congr (fun c _ => area_sc (cn c) (CP c)), sumZ_mul] at this
  exact pos_of_mul hf this
end Go.Proofs.YtgbhhjdmochhpaaDoor
namespace Go.Proofs.YtgbhhjdmochhpaaDoor
set_option linter.unusedVariables false
set_option linter.unusedSimpArgs false

/-- a fold: the next edge goes back along the edge -/
def fold (a b c : Pt) : Prop := crs a b c = 0 ∧ 0 < (a.1 - b.1) * (c.1 - b.1) + (a.2 - b.2) * (c.2 - b.2)
instance (a b c : Pt) : Decidable (fold a b c) := by unfold fold; infer_instance
theorem fold_on {a b c : Pt} (h : fold a b c) : onS a b c ∨ onS b c a := by
  obtain ⟨h1, h2⟩ := h
  have h3 : crs b c a = 0 := by rw [← h1]; simp only [crs]; grind
  have hx : (a.1 - b.1) * (c.2 - b.2) = (a.2 - b.2) * (c.1 - b.1) := by simp only [crs] at h1; grind
  by_cases c2 : c.2 = b.2
  · have r2 : c.2 - b.2 = 0 := by omega
    rw [r2, Int.mul_zero] at hx h2
    have r1 : c.1 - b.1 ≠ 0 := by intro e; rw [e] at h2; omega
    have p2 : a.2 - b.2 = 0 := by rcases Int.mul_eq_zero.1 hx.symm with h | h <;> omega
    have hs : 0 < a.1 - b.1 ∧ 0 < c.1 - b.1 ∨ a.1 - b.1 < 0 ∧ c.1 - b.1 < 0 := by
      rcases Int.lt_or_gt_of_ne r1 with h | h
      · right
        refine ⟨?_, h⟩
        apply Classical.byContradiction
        intro hc
        have := Int.mul_nonneg (show 0 ≤ a.1 - b.1 by omega) (show 0 ≤ -(c.1 - b.1) by omega)
        rw [Int.mul_neg] at this
        omega
      · left
        refine ⟨?_, h⟩
        apply Classical.byContradiction
        intro hc
        have := Int.mul_nonneg (show 0 ≤ -(a.1 - b.1) by omega) (show 0 ≤ (c.1 - b.1) by omega)
        rw [Int.neg_mul] at this
        omega
    by_cases c3 : bt a.1 b.1 c.1
    · exact .inl ⟨h1, c3, by unfold bt; omega⟩
    · exact .inr ⟨h3, by unfold bt at c3 ⊢; omega, by unfold bt; omega⟩
  · have p2 : a.2 - b.2 ≠ 0 := by
      intro e
      rw [e, Int.zero_mul] at hx
      have p1 : a.1 - b.1 = 0 := by rcases Int.mul_eq_zero.1 hx with h | h <;> omega
      rw [e, p1] at h2
      omega
    have hs : 0 < a.2 - b.2 ∧ 0 < c.2 - b.2 ∨ a.2 - b.2 < 0 ∧ c.2 - b.2 < 0 := by
      -- the products of both coordinates have one sign
      have key : ((a.1 - b.1) * (c.1 - b.1)) * ((a.2 - b.2) * (c.2 - b.2)) = ((a.1 - b.1) * (c.2 - b.2)) * ((a.1 - b.1) * (c.2 - b.2)) := by grind
      have hsq : 0 ≤ ((a.1 - b.1) * (c.2 - b.2)) * ((a.1 - b.1) * (c.2 - b.2)) := by
        rcases Int.le_total 0 ((a.1 - b.1) * (c.2 - b.2)) with h | h
        · exact Int.mul_nonneg h h
        · have := Int.mul_nonneg (show 0 ≤ -((a.1 - b.1) * (c.2 - b.2)) by omega) (show 0 ≤ -((a.1 - b.1) * (c.2 - b.2)) by omega)
          rwa [Int.neg_mul_neg] at this
      have pos : ∀ {x y : Int}, x ≠ 0 → y ≠ 0 → ¬ (0 < x ∧ 0 < y ∨ x < 0 ∧ y < 0) → x * y < 0 := by
        intro x y hx hy h
        rcases Int.lt_or_gt_of_ne hx with h' | h'
        · have := Int.mul_pos (show 0 < -x by omega) (show 0 < y by omega)
          rw [Int.neg_mul] at this
          omega
        · have := Int.mul_pos h' (show 0 < -y by omega)
          rw [Int.mul_neg] at this
          omega
      apply Classical.byContradiction
      intro hc
      have n2 := pos p2 (show c.2 - b.2 ≠ 0 by omega) hc
      have n1 : 0 < (a.1 - b.1) * (c.1 - b.1) := by omega
      have := Int.mul_pos n1 (show 0 < -((a.2 - b.2) * (c.2 - b.2)) by omega)
      rw [Int.mul_neg] at this
      omega
    by_cases c3 : bt a.2 b.2 c.2
    · exact .inl (on_of_lev (by omega) h1 c3)
    · exact .inr (on_of_lev (by omega) h3 (by unfold bt at c3 ⊢; omega))

/-- what the reference asks of a polygon -/
structure RefPol (n : Nat) (P : Nat → Pt) : Prop where
  n3 : 3 ≤ n
  n32 : n ≤ 32
  nr : ∀ i, i < n → (-32768 ≤ (P i).1 ∧ (P i).1 ≤ 32768) ∧ -32768 ≤ (P i).2 ∧ (P i).2 ≤ 32768
  ds : ∀ i k, k < i → i < n → P i ≠ P k
  nf : ∀ i, i < n → ¬ onS (P (nx n i)) (P (nx n (nx n i))) (P i) ∧ ¬ onS (P i) (P (nx n i)) (P (nx n (nx n i)))
  nm : ∀ i k, i < n → i + 2 ≤ k → k < n → nx n k ≠ i → ¬ meets (P i) (P (nx n i)) (P k) (P (nx n k))
theorem RefPol.pol {n : Nat} {P : Nat → Pt} (h : RefPol n P) : Pol 32768 n P where
  n3 := h.n3
  nr := h.nr
  ne := fun i hi e => by
    have hn := h.n3
    have hx := nx_val hi
    split at hx
    · exact h.ds _ _ (show i < nx n i by omega) (by omega) e.symm
    · exact h.ds _ _ (show nx n i < i by omega) hi e
  nf := fun i hi => ⟨(h.nf i hi).2, (h.nf i hi).1⟩
  nm := fun i k hi hk h1 h2 h3 hm => by
    have hxi := nx_val hi
    have hxk := nx_val hk
    rcases Nat.lt_trichotomy i k with c | c | c
    · refine h.nm i k hi ?_ hk h3 hm
      split at hxi <;> omega
    · exact h1 c
    · refine h.nm k i hk ?_ hi h2 (meets_comm.1 hm)
      split at hxk <;> omega
/-- what the program asks of a polygon's edges -/
theorem Pol.simple {M : Int} {n : Nat} {P : Nat → Pt} (h : Pol M n P) {i : Nat} (hi : i < n) : P i ≠ P (nx n i) ∧ ¬ fold (P i) (P (nx n i)) (P (nx n (nx n i))) ∧ ∀ k, i + 2 ≤ k → k < n → nx n k ≠ i → ¬ meets (P i) (P (nx n i)) (P k) (P (nx n k)) := by
  refine ⟨h.ne i hi, fun hf => ?_, fun k h1 h2 h3 => ?_⟩
  · rcases fold_on hf with h' | h'
    · exact (h.nf i hi).1 h'
    · exact (h.nf i hi).2 h'
  · refine h.nm i k hi h2 (by omega) ?_ h3
    have := nx_val hi
    split at this <;> omega

/- THE OPPOSITE ORDER. -/
theorem nx_inj {n i k : Nat} (hi : i < n) (hk : k < n) (h : nx n i = nx n k) : i = k := by
  rw [nx_val hi, nx_val hk] at h
  split at h <;> split at h <;> omega
theorem nx_re {n i : Nat} (hi : i < n) : nx n (re n (nx n i)) = re n i := by
  rw [nx_val (re_lt (nx_lt (by omega))), nx_val hi]
  unfold re
  split <;> split <;> split <;> omega
theorem Pol.rv {M : Int} {n : Nat} {P : Nat → Pt} (h : Pol M n P) : Pol M n (rv n P) where
  n3 := h.n3
  nr := fun i hi => h.nr _ (by have := h.n3; omega)
  ne := fun i hi => by
    obtain ⟨e1, e2⟩ := rv_edge P hi
    rw [e1, e2]
    exact (h.ne _ (re_lt hi)).symm
  nm := fun i k hi hk h1 h2 h3 hm => by
    obtain ⟨e1, e2⟩ := rv_edge P hi
    obtain ⟨f1, f2⟩ := rv_edge P hk
    rw [e1, e2, f1, f2, meets_swapL, meets_swapR] at hm
    have hn := h.n3
    refine h.nm _ _ (re_lt hi) (re_lt hk) (fun e => h1 (re_inj hi hk e)) (fun e => ?_) (fun e => ?_) hm
    · have := nx_re hk
      exact h3 (re_inj hi (nx_lt (by omega)) (nx_inj (re_lt hi) (re_lt (nx_lt (by omega))) (e.trans this.symm))).symm
    · have := nx_re hi
      exact h2 (re_inj hk (nx_lt (by omega)) (nx_inj (re_lt hk) (re_lt (nx_lt (by omega))) (e.trans this.symm))).symm
  nf := fun i hi => by
    have hn := h.n3
    have hxi := nx_lt (n := n) (i := i) (by omega)
    obtain ⟨e1, e2⟩ := rv_edge P hi
    obtain ⟨f1, f2⟩ := rv_edge P hxi
    rw [e1, e2, f2]
    have hj := re_lt hxi
    obtain ⟨n1, n2⟩ := h.nf _ hj
    rw [nx_re hi] at n1 n2
    exact ⟨fun x => n2 (onS_swap.1 x), fun x => n1 (onS_swap.1 x)⟩
theorem sumZ_shift (g : Nat → Int) : ∀ n, sumZ (fun i => g (i + 1)) n = sumZ g (n + 1) - g 0
  | 0 => by simp [sumZ]
  | n + 1 => by
    have e1 : sumZ (fun i => g (i + 1)) (n + 1) = sumZ (fun i => g (i + 1)) n + g (n + 1) := rfl
    have e2 : sumZ g (n + 1 + 1) = sumZ g (n + 1) + g (n + 1) := rfl
    rw [e1, sumZ_shift g n, e2]
    omega
theorem sumZ_rev : ∀ (n : Nat) (g : Nat → Int), sumZ (fun i => g (n - 1 - i)) n = sumZ g n
  | 0, g => rfl
  | n + 1, g => by
    have e : sumZ (fun i => g (n + 1 - 1 - i)) n = sumZ (fun i => g (n - 1 - i + 1)) n := sumZ_congr fun i hi => congrArg g (by omega)
    rw [sumZ, e, sumZ_rev n (fun j => g (j + 1)), sumZ_shift, show n + 1 - 1 - n = 0 by omega]
    omega
theorem area_rv (n : Nat) (P : Nat → Pt) : area2 n (rv n P) = - area2 n P := by
  unfold area2
  rw [sumZ_congr (g := fun i => -1 * ((P (re n i)).1 * (P (nx n (re n i))).2 - (P (nx n (re n i))).1 * (P (re n i)).2)) (fun i hi => by
    obtain ⟨e1, e2⟩ := rv_edge P hi
    rw [e1, e2]
    grind), sumZ_mul]
  have : sumZ (fun i => (P (re n i)).1 * (P (nx n (re n i))).2 - (P (nx n (re n i))).1 * (P (re n i)).2) n = sumZ (fun i => (P i).1 * (P (nx n i)).2 - (P (nx n i)).1 * (P i).2) n := by
    match n with
    | 0 => rfl
    | m + 1 =>
      rw [sumZ, sumZ, sumZ_congr (g := fun i => (P (m - 1 - i)).1 * (P (nx (m + 1) (m - 1 - i))).2 - (P (nx (m + 1) (m - 1 - i))).1 * (P (m - 1 - i)).2) (fun i hi => by
        unfold re
        rw [if_pos (by omega), show m + 1 - 2 - i = m - 1 - i by omega]), sumZ_rev m (fun j => (P j).1 * (P (nx (m + 1) j)).2 - (P (nx (m + 1) j)).1 * (P j).2)]
      rw [show re (m + 1) m = m by unfold re; rw [if_neg (by omega)]; omega]
  rw [this]
  omega

/- PLACED. -/
structure Rigid (T : Pt → Pt) (s : Int) : Prop where
  on : ∀ a b q, onS (T a) (T b) (T q) ↔ onS a b q
  mt : ∀ a b c d, meets (T a) (T b) (T c) (T d) ↔ meets a b c d
  inj : ∀ a b, T a = T b → a = b
  par : ∀ n P q, Off n P q → par n (fun i => T (P i)) (T q) = par n P q
  area : ∀ n P, area2 n (fun i => T (P i)) = s * area2 n P
theorem Rigid.comp {T U : Pt → Pt} {s r : Int} (h : Rigid T s) (g : Rigid U r) : Rigid (fun p => U (T p)) (r * s) where
  on := fun a b q => (g.on _ _ _).trans (h.on a b q)
  mt := fun a b c d => (g.mt _ _ _ _).trans (h.mt a b c d)
  inj := fun a b e => h.inj _ _ (g.inj _ _ e)
  par := fun n P q ho => (g.par n (fun i => T (P i)) (T q) (fun i hi hc => ho i hi ((h.on _ _ _).1 hc))).trans (h.par n P q ho)
  area := fun n P => by rw [g.area n (fun i => T (P i)), h.area n P, Int.mul_assoc]
theorem rigid_id : Rigid (fun p => p) 1 := ⟨fun _ _ _ => Iff.rfl, fun _ _ _ _ => Iff.rfl, fun _ _ e => e, fun _ _ _ _ => rfl, fun n P => by show area2 n P = _; omega⟩
theorem rigid_rot : Rigid rot 1 where
  on := fun _ _ _ => onS_rot
  mt := fun _ _ _ _ => meets_rot
  inj := fun a b e => by
    have h1 := congrArg Prod.fst e
    have h2 := congrArg Prod.snd e
    simp only [rot] at h1 h2
    exact Prod.ext h2 (by omega)
  par := fun n P q ho => par_rot ho
  area := fun n P => by
    unfold area2
    rw [Int.one_mul]
    exact sumZ_congr fun i _ => by simp only [rot]; grind
theorem rigid_mir : Rigid mir (-1) where
  on := fun _ _ _ => onS_mir
  mt := fun _ _ _ _ => meets_mir
  inj := fun a b e => by
    have h1 := congrArg Prod.fst e
    have h2 := congrArg Prod.snd e
    simp only [mir] at h1 h2
    exact Prod.ext (by omega) h2
  par := fun n P q ho => par_mir ho
  area := fun n P => by
    unfold area2
    rw [← sumZ_mul]
    exact sumZ_congr fun i _ => by simp only [mir]; grind
theorem rigid_mov (t : Pt) : Rigid (mov t) 1 where
  on := fun _ _ _ => onS_mov
  mt := fun _ _ _ _ => meets_mov
  inj := fun a b e => by
    have h1 := congrArg Prod.fst e
    have h2 := congrArg Prod.snd e
    simp only [mov] at h1 h2
    exact Prod.ext (by omega) (by omega)
  par := fun n P q ho => par_mov t
  area := fun n P => by
    unfold area2
    have e : sumZ (fun i => (mov t (P i)).1 * (mov t (P (nx n i))).2 - (mov t (P (nx n i))).1 * (mov t (P i)).2) n = sumZ (fun i => ((P i).1 * (P (nx n i)).2 - (P (nx n i)).1 * (P i).2) + ((t.1 * (P (nx n i)).2 - t.2 * (P (nx n i)).1) - (t.1 * (P i).2 - t.2 * (P i).1))) n := sumZ_congr fun i _ => by simp only [mov]; grind
    rw [e, sumZ_add, sum_cyc (fun i => t.1 * (P i).2 - t.2 * (P i).1)]
    omega
/-- a point at a spot -/
def rotN : Nat → Pt → Pt
  | 0, p => p
  | k + 1, p => rot (rotN k p)
def spotT (fl : Bool) (k : Nat) (t p : Pt) : Pt := mov t (rotN k (if fl then mir p else p))
def spotF {α : Type} (fl : Bool) (n : Nat) (P : Nat → α) : Nat → α := if fl then rv n P else P
theorem rigid_rotN : ∀ k, Rigid (rotN k) 1
  | 0 => rigid_id
  | k + 1 => by
    have := (rigid_rotN k).comp rigid_rot
    rwa [show (1 : Int) * 1 = 1 by decide] at this
theorem rigid_spot (fl : Bool) (k : Nat) (t : Pt) : Rigid (spotT fl k t) (if fl then -1 else 1) := by
  cases fl with
  | true =>
    have := (rigid_mir.comp (rigid_rotN k)).comp (rigid_mov t)
    rw [show (1 : Int) * (1 * -1) = -1 by decide] at this
    exact this
  | false =>
    have := (rigid_rotN k).comp (rigid_mov t)
    rw [show (1 : Int) * 1 = 1 by decide] at this
    exact this
theorem rotN_bd {M : Int} {p : Pt} (h : (-M ≤ p.1 ∧ p.1 ≤ M) ∧ -M ≤ p.2 ∧ p.2 ≤ M) : ∀ k, (-M ≤ (rotN k p).1 ∧ (rotN k p).1 ≤ M) ∧ -M ≤ (rotN k p).2 ∧ (rotN k p).2 ≤ M
  | 0 => h
  | k + 1 => by
    have := rotN_bd h k
    simp only [rotN, rot]
    omega
theorem spot_bd {M : Int} {p t : Pt} {fl : Bool} {k : Nat} (h : (-M ≤ p.1 ∧ p.1 ≤ M) ∧ -M ≤ p.2 ∧ p.2 ≤ M) (ht : (0 ≤ t.1 ∧ t.1 ≤ M) ∧ 0 ≤ t.2 ∧ t.2 ≤ M) : (-(2 * M) ≤ (spotT fl k t p).1 ∧ (spotT fl k t p).1 ≤ 2 * M) ∧ -(2 * M) ≤ (spotT fl k t p).2 ∧ (spotT fl k t p).2 ≤ 2 * M := by
  have h2 : (-M ≤ (if fl then mir p else p).1 ∧ (if fl then mir p else p).1 ≤ M) ∧ -M ≤ (if fl then mir p else p).2 ∧ (if fl then mir p else p).2 ≤ M := by
    cases fl
    · exact h
    · simp only [mir, if_true]
      omega
  have := rotN_bd h2 k
  simp only [spotT, mov]
  omega
theorem Pol.placed {M N : Int} {n : Nat} {P : Nat → Pt} (h : Pol M n P) {T : Pt → Pt} {s : Int} (hT : Rigid T s) (hN : ∀ i, i < n → (-N ≤ (T (P i)).1 ∧ (T (P i)).1 ≤ N) ∧ -N ≤ (T (P i)).2 ∧ (T (P i)).2 ≤ N) : Pol N n (fun i => T (P i)) where
  n3 := h.n3
  nr := hN
  ne := fun i hi e => h.ne i hi (hT.inj _ _ e)
  nm := fun i k hi hk h1 h2 h3 hm => h.nm i k hi hk h1 h2 h3 ((hT.mt _ _ _ _).1 hm)
  nf := fun i hi => ⟨fun x => (h.nf i hi).1 ((hT.on _ _ _).1 x), fun x => (h.nf i hi).2 ((hT.on _ _ _).1 x)⟩
/-- WHAT THE PROGRAM ASKS OF A SHAPE: the contour and the holes -/
structure Reg (no : Nat) (P : Nat → Pt) (m : Nat) (hn : Nat → Nat) (H : Nat → Nat → Pt) : Prop where
  m8 : m ≤ 8
  po : Pol 32768 no P
  no32 : no ≤ 32
  pos : 0 < area2 no P
  hp : ∀ i, i < m → Pol 32768 (hn i) (H i)
  h32 : ∀ i, i < m → hn i ≤ 32
  neg : ∀ i, i < m → area2 (hn i) (H i) < 0
  nmo : ∀ i, i < m → ∀ a b, a < hn i → b < no → ¬ meets (H i a) (H i (nx (hn i) a)) (P b) (P (nx no b))
  ino : ∀ i, i < m → ∀ a, a < hn i → par no P (H i a) = true
  nmh : ∀ i j, i < m → j < m → i ≠ j → ∀ a b, a < hn i → b < hn j → ¬ meets (H i a) (H i (nx (hn i) a)) (H j b) (H j (nx (hn j) b))
  out : ∀ i j, i < m → j < m → i ≠ j → ∀ a, a < hn i → par (hn j) (H j) (H i a) = false
/-- what the reference asks -/
structure RefReg (no : Nat) (P : Nat → Pt) (m : Nat) (hn : Nat → Nat) (H : Nat → Nat → Pt) : Prop where
  m8 : m ≤ 8
  po : RefPol no P
  pos : 0 < area2 no P
  hp : ∀ i, i < m → RefPol (hn i) (H i)
  neg : ∀ i, i < m → area2 (hn i) (H i) < 0
  nmo : ∀ i, i < m → ∀ a b, b < no → a < hn i → ¬ meets (P b) (P (nx no b)) (H i a) (H i (nx (hn i) a))
  ino : ∀ i, i < m → par no P (H i 0) = true
  nmh : ∀ i j, i < m → j < i → ∀ a b, a < hn i → b < hn j → ¬ meets (H i a) (H i (nx (hn i) a)) (H j b) (H j (nx (hn j) b))
  o1 : ∀ i j, i < m → j < i → par (hn i) (H i) (H j 0) = false
  o2 : ∀ i j, i < m → j < i → par (hn j) (H j) (H i 0) = false
theorem RefReg.reg {no m : Nat} {P : Nat → Pt} {hn : Nat → Nat} {H : Nat → Nat → Pt} (h : RefReg no P m hn H) : Reg no P m hn H := by
  have nmo : ∀ i, i < m → ∀ a b, a < hn i → b < no → ¬ meets (H i a) (H i (nx (hn i) a)) (P b) (P (nx no b)) := fun i hi a b ha hb hm => h.nmo i hi a b hb ha (meets_comm.1 hm)
  have nmh : ∀ i j, i < m → j < m → i ≠ j → ∀ a b, a < hn i → b < hn j → ¬ meets (H i a) (H i (nx (hn i) a)) (H j b) (H j (nx (hn j) b)) := fun i j hi hj hij a b ha hb hm => by
    rcases Nat.lt_or_gt_of_ne hij with c | c
    · exact h.nmh j i hj c b a hb ha (meets_comm.1 hm)
    · exact h.nmh i j hi c a b ha hb hm
  have p0 : ∀ i, i < m → 0 < hn i := fun i hi => by have := (h.hp i hi).n3; omega
  exact ⟨h.m8, h.po.pol, h.po.n32, h.pos, fun i hi => (h.hp i hi).pol, fun i hi => (h.hp i hi).n32, h.neg, nmo,
    fun i hi a ha => (par_const (p0 i hi) (fun a b ha hb => nmo i hi a b ha hb) a ha).trans (h.ino i hi), nmh,
    fun i j hi hj hij a ha => (par_const (p0 i hi) (fun a b ha hb => nmh i j hi hj hij a b ha hb) a ha).trans (by
      rcases Nat.lt_or_gt_of_ne hij with c | c
      · exact h.o1 j i hj c
      · exact h.o2 i j hi c)⟩
/-- twice the area of a shape -/
def area2S (no : Nat) (P : Nat → Pt) (m : Nat) (hn : Nat → Nat) (H : Nat → Nat → Pt) : Int := area2 no P + sumZ (fun i => area2 (hn i) (H i)) m
theorem Reg.area_pos {no m : Nat} {P : Nat → Pt} {hn : Nat → Nat} {H : Nat → Nat → Pt} (h : Reg no P m hn H) : 0 < area2S no P m hn H := by
  have := shape_pos (M := 32768) (by decide) (k := m + 1) (cn := fun c => if c = 0 then no else hn (c - 1)) (CP := fun c => if c = 0 then P else H (c - 1)) (by omega)
    (fun c hc => by
      by_cases e : c = 0
      · simp only [if_pos e]; exact h.po
      · simp only [if_neg e]; exact h.hp _ (by omega))
    (fun c d hc hd hcd i j hi hj => by
      by_cases e : c = 0 <;> by_cases e2 : d = 0
      · omega
      · simp only [if_pos e, if_neg e2] at hi hj ⊢
        exact fun hm => h.nmo _ (by omega) j i hj hi (meets_comm.1 hm)
      · simp only [if_neg e, if_pos e2] at hi hj ⊢
        exact h.nmo _ (by omega) i j hi hj
      · simp only [if_neg e, if_neg e2] at hi hj ⊢
        exact h.nmh _ _ (by omega) (by omega) (by omega) i j hi hj)
    (by simpa using h.pos)
    (fun c h0 hc => by simp only [if_neg (show ¬ c = 0 by omega)]; exact h.neg _ (by omega))
    (fun c h0 hc i hi => by
      simp only [if_neg (show ¬ c = 0 by omega), if_true] at hi ⊢
      exact h.ino _ (by omega) i hi)
    (fun c d h0 hc h1 hd hcd i hi => by
      simp only [if_neg (show ¬ c = 0 by omega), if_neg (show ¬ d = 0 by omega)] at hi ⊢
      exact h.out _ _ (by omega) (by omega) (by omega) i hi)
  have e : sumZ (fun c => area2 (if c = 0 then no else hn (c - 1)) (if c = 0 then P else H (c - 1))) (m + 1) = area2S no P m hn H := by
    have h2 := sumZ_shift (fun c => area2 (if c = 0 then no else hn (c - 1)) (if c = 0 then P else H (c - 1))) m
    unfold area2S
    have h3 : sumZ (fun i => area2 (if i + 1 = 0 then no else hn (i + 1 - 1)) (if i + 1 = 0 then P else H (i + 1 - 1))) m = sumZ (fun i => area2 (hn i) (H i)) m := sumZ_congr fun i _ => by simp
    rw [h3] at h2
    simp only [if_true] at h2
    omega
  rwa [e] at this
theorem spotF_t {α : Type} (n : Nat) (P : Nat → α) : spotF true n P = rv n P := rfl
theorem spotF_f {α : Type} (n : Nat) (P : Nat → α) : spotF false n P = P := rfl
theorem spot_area (fl : Bool) (k : Nat) (t : Pt) (n : Nat) (P : Nat → Pt) : area2 n (spotF fl n (fun i => spotT fl k t (P i))) = area2 n P := by
  have h := (rigid_spot fl k t).area n P
  cases fl with
  | true =>
    rw [spotF_t, area_rv, h]
    simp
  | false =>
    rw [spotF_f, h]
    simp
theorem spot_pol {n : Nat} {P : Nat → Pt} {fl : Bool} {k : Nat} {t : Pt} (h : Pol 32768 n P) (hb : ∀ i, i < n → (-16384 ≤ (P i).1 ∧ (P i).1 ≤ 16384) ∧ -16384 ≤ (P i).2 ∧ (P i).2 ≤ 16384) (ht : (0 ≤ t.1 ∧ t.1 ≤ 16384) ∧ 0 ≤ t.2 ∧ t.2 ≤ 16384) : Pol 32768 n (spotF fl n (fun i => spotT fl k t (P i))) := by
  have := h.placed (rigid_spot fl k t) (N := 32768) (fun i hi => by have := spot_bd (M := 16384) (fl := fl) (k := k) (hb i hi) ht; exact this)
  cases fl with
  | true => exact this.rv
  | false => exact this
/-- the edge of a placed contour -/
theorem spot_edge (fl : Bool) (n : Nat) (P : Nat → Pt) (T : Pt → Pt) {i : Nat} (hi : i < n) : ∃ j, j < n ∧ ((spotF fl n (fun i => T (P i)) i = T (P j) ∧ spotF fl n (fun i => T (P i)) (nx n i) = T (P (nx n j))) ∨ (spotF fl n (fun i => T (P i)) i = T (P (nx n j)) ∧ spotF fl n (fun i => T (P i)) (nx n i) = T (P j))) := by
  cases fl with
  | true =>
    obtain ⟨e1, e2⟩ := rv_edge (fun i => T (P i)) hi
    exact ⟨re n i, re_lt hi, .inr ⟨e1, e2⟩⟩
  | false => exact ⟨i, hi, .inl ⟨rfl, rfl⟩⟩
theorem spot_meets (fl : Bool) {T : Pt → Pt} {s : Int} (hT : Rigid T s) {n m : Nat} {P H : Nat → Pt} (h : ∀ a b, a < m → b < n → ¬ meets (H a) (H (nx m a)) (P b) (P (nx n b))) : ∀ a b, a < m → b < n →
    ¬ meets (spotF fl m (fun i => T (H i)) a) (spotF fl m (fun i => T (H i)) (nx m a)) (spotF fl n (fun i => T (P i)) b) (spotF fl n (fun i => T (P i)) (nx n b)) := by
  intro a b ha hb hm
  obtain ⟨i, hi, h1⟩ := spot_edge fl m H T ha
  obtain ⟨j, hj, h2⟩ := spot_edge fl n P T hb
  refine h i j hi hj ((hT.mt _ _ _ _).1 ?_)
  rcases h1 with ⟨e1, e2⟩ | ⟨e1, e2⟩ <;> rcases h2 with ⟨f1, f2⟩ | ⟨f1, f2⟩ <;> rw [e1, e2, f1, f2] at hm
  · exact hm
  · exact meets_swapR.1 hm
  · exact meets_swapL.1 hm
  · exact meets_swapL.1 (meets_swapR.1 hm)
theorem spot_par (fl : Bool) {T : Pt → Pt} {s : Int} (hT : Rigid T s) {n m : Nat} {P H : Nat → Pt} (h : ∀ a b, a < m → b < n → ¬ meets (H a) (H (nx m a)) (P b) (P (nx n b))) {v : Bool} (hv : ∀ a, a < m → par n P (H a) = v) : ∀ a, a < m → par n (spotF fl n (fun i => T (P i))) (spotF fl m (fun i => T (H i)) a) = v := by
  have key : ∀ a, a < m → par n (spotF fl n (fun i => T (P i))) (T (H a)) = v := fun a ha => by
    have ho := off_of h ha
    have h1 := (hT.par n P (H a) ho).trans (hv a ha)
    cases fl with
    | true => exact (par_rv (fun i hi hc => ho i hi ((hT.on _ _ _).1 hc))).trans h1
    | false => exact h1
  intro a ha
  cases fl with
  | true => exact key (m - 1 - a) (by omega)
  | false => exact key a ha
/-- A SHAPE AT A SPOT -/
theorem Reg.placed {no m : Nat} {P : Nat → Pt} {hn : Nat → Nat} {H : Nat → Nat → Pt} (h : Reg no P m hn H) (hb : ∀ i, i < no → (-16384 ≤ (P i).1 ∧ (P i).1 ≤ 16384) ∧ -16384 ≤ (P i).2 ∧ (P i).2 ≤ 16384) (fl : Bool) (k : Nat) {t : Pt} (ht : (0 ≤ t.1 ∧ t.1 ≤ 16384) ∧ 0 ≤ t.2 ∧ t.2 ≤ 16384) :
    Reg no (spotF fl no (fun i => spotT fl k t (P i))) m hn (fun i => spotF fl (hn i) (fun j => spotT fl k t (H i j))) ∧ area2S no (spotF fl no (fun i => spotT fl k t (P i))) m hn (fun i => spotF fl (hn i) (fun j => spotT fl k t (H i j))) = area2S no P m hn H := by
  have hT := rigid_spot fl k t
  have hbh : ∀ i, i < m → ∀ a, a < hn i → (-16384 ≤ (H i a).1 ∧ (H i a).1 ≤ 16384) ∧ -16384 ≤ (H i a).2 ∧ (H i a).2 ≤ 16384 := fun i hi a ha => par_box (h.ino i hi a ha) hb
  refine ⟨⟨h.m8, spot_pol h.po hb ht, h.no32, by rw [spot_area]; exact h.pos, fun i hi => spot_pol (h.hp i hi) (hbh i hi) ht, h.h32, fun i hi => by rw [spot_area]; exact h.neg i hi,
    fun i hi => spot_meets fl hT (h.nmo i hi), fun i hi => spot_par fl hT (h.nmo i hi) (h.ino i hi), fun i j hi hj hij => spot_meets fl hT (h.nmh i j hi hj hij), fun i j hi hj hij => spot_par fl hT (h.nmh i j hi hj hij) (h.out i j hi hj hij)⟩, ?_⟩
  unfold area2S
  rw [spot_area, sumZ_congr (fun i _ => spot_area fl k t (hn i) (H i))]
/-- a hole's corners lie where the contour's do -/
theorem Reg.hole_bd {no m : Nat} {P : Nat → Pt} {hn : Nat → Nat} {H : Nat → Nat → Pt} (h : Reg no P m hn H) {M : Int} (hb : ∀ i, i < no → (-M ≤ (P i).1 ∧ (P i).1 ≤ M) ∧ -M ≤ (P i).2 ∧ (P i).2 ≤ M) : ∀ i, i < m → ∀ a, a < hn i → (-M ≤ (H i a).1 ∧ (H i a).1 ≤ M) ∧ -M ≤ (H i a).2 ∧ (H i a).2 ≤ M := fun i hi a ha => par_box (h.ino i hi a ha) hb
end Go.Proofs.YtgbhhjdmochhpaaDoor
