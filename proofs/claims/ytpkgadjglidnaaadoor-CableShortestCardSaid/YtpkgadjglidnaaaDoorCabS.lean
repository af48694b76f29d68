/-
  The example of chapter 45: what its calls return. Conditions: as stated. By an AI agent.
-/
import Derived.Test.YtpkgadjglidnaaaDoorCabR
import Derived.Test.YtpkgadjglidnaaaDoorCabJ
import Derived.Test.YtpkgadjglidnaaaDoorCabO
namespace Go.Proofs.YtpkgadjglidnaaaDoor
open Go Go.ChangeShapes Go.WideShapes Go.RowKit Go.ChangeAt
set_option linter.unusedVariables false
set_option linter.unusedSimpArgs false

def T3 : Nat → Tr
  | 0 => ⟨0, 1, 5, 1⟩
  | 1 => ⟨1, 2, 5, 1⟩
  | _ => ⟨0, 2, 10, 1⟩
def C3 : Nat → Cb
  | 0 => ⟨⟨#[97]⟩, 0, 2, 1⟩
  | 1 => ⟨⟨#[98]⟩, 0, 2, 1⟩
  | _ => ⟨⟨#[99]⟩, 0, 2, 1⟩
theorem T3_ok : ∀ i, i < 3 → (T3 i).ok := fun i hi => by
  match i, hi with
  | 0, _ => exact ⟨by decide, by decide, by decide, by decide, by decide, by decide, by decide, by decide, by decide⟩
  | 1, _ => exact ⟨by decide, by decide, by decide, by decide, by decide, by decide, by decide, by decide, by decide⟩
  | 2, _ => exact ⟨by decide, by decide, by decide, by decide, by decide, by decide, by decide, by decide, by decide⟩
/-- distances, given by their values -/
theorem dist_given {n : Nat} {T : Nat → Tr} {U : Nat → Bool} {to : Int} {F : Int → Int} (h0 : F to = 0) (low : ∀ v, -1 ≤ F v) (hw : ∀ v, 0 ≤ F v → ∃ p, Wk n T U to v p (F v))
    (hs : ∀ i, i < n → U i = true → ∀ v w, Goes (T i) v w → 0 ≤ F w → 0 ≤ F v ∧ F v ≤ (T i).L + F w) : DistIs n T U to F where
  low := fun v _ _ => low v
  walk := fun v _ _ h => hw v h
  least := fun v p l h => by
    induction h with
    | nil => rw [h0]; omega
    | @cons v w i p l hi hu hg _ ih =>
      have := hs i hi hu v w hg ih.1
      omega
theorem dist_eq {n : Nat} {T : Nat → Tr} {U : Nat → Bool} {to : Int} (hT : ∀ i, i < n → (T i).ok) {F : Int → Int} (h : DistIs n T U to F) {v : Int} (hv : 0 ≤ v ∧ v ≤ 255) : distF n T U to v = F v := (distF_is hT).uniq hT h hv
def F1 (v : Int) : Int := if v = 0 then 10 else if v = 1 then 5 else if v = 2 then 0 else -1
def F2 (v : Int) : Int := if v = 0 then 10 else if v = 2 then 0 else -1
def F3 (v : Int) : Int := if v = 2 then 0 else -1
def U1 : Nat → Bool := fun _ => true
def U2 (i : Nat) : Bool := decide (i = 2)
def U3 : Nat → Bool := fun _ => false
theorem wk_0 {U : Nat → Bool} : Wk 3 T3 U 2 2 [] 0 := .nil
theorem wk_1 {U : Nat → Bool} (h : U 1 = true) : Wk 3 T3 U 2 1 [1] 5 := .cons (i := 1) (l := 0) (by decide) h (.inl ⟨rfl, rfl⟩) wk_0
theorem wk_01 {U : Nat → Bool} (h0 : U 0 = true) (h : U 1 = true) : Wk 3 T3 U 2 0 [0, 1] 10 := .cons (i := 0) (l := 5) (by decide) h0 (.inl ⟨rfl, rfl⟩) (wk_1 h)
theorem wk_2 {U : Nat → Bool} (h : U 2 = true) : Wk 3 T3 U 2 0 [2] 10 := .cons (i := 2) (l := 0) (by decide) h (.inl ⟨rfl, rfl⟩) wk_0
theorem lt3 {i : Nat} (h : i < 3) : i = 0 ∨ i = 1 ∨ i = 2 := by omega
theorem D1 {U : Nat → Bool} (h : ∀ i, i < 3 → U i = true) : DistIs 3 T3 U 2 F1 := by
  refine dist_given rfl (fun v => by unfold F1; split; omega; split; omega; split <;> omega) (fun v hv => ?_) (fun i hi hu v w hg hw => ?_)
  · unfold F1 at hv ⊢
    split
    · rename_i e; subst e; exact ⟨_, wk_01 (h 0 (by decide)) (h 1 (by decide))⟩
    · split
      · rename_i e; subst e; exact ⟨_, wk_1 (h 1 (by decide))⟩
      · split
        · rename_i e; subst e; exact ⟨_, wk_0⟩
        · rename_i h0 h1 h2
          rw [if_neg h0, if_neg h1, if_neg h2] at hv
          omega
  · rcases lt3 hi with rfl | rfl | rfl <;> rcases hg with ⟨rfl, rfl⟩ | ⟨rfl, rfl⟩ <;> decide
theorem D2 {U : Nat → Bool} (h0 : U 0 = false) (h1 : U 1 = false) (h2 : U 2 = true) : DistIs 3 T3 U 2 F2 := by
  refine dist_given rfl (fun v => by unfold F2; split; omega; split <;> omega) (fun v hv => ?_) (fun i hi hu v w hg hw => ?_)
  · unfold F2 at hv ⊢
    split
    · rename_i e; subst e; exact ⟨_, wk_2 h2⟩
    · split
      · rename_i e; subst e; exact ⟨_, wk_0⟩
      · rename_i h0 h2
        rw [if_neg h0, if_neg h2] at hv
        omega
  · rcases lt3 hi with rfl | rfl | rfl
    · rw [h0] at hu; cases hu
    · rw [h1] at hu; cases hu
    · rcases hg with ⟨rfl, rfl⟩ | ⟨rfl, rfl⟩ <;> decide
theorem D3 {U : Nat → Bool} (h : ∀ i, i < 3 → U i = false) : DistIs 3 T3 U 2 F3 := by
  refine dist_given rfl (fun v => by unfold F3; split <;> omega) (fun v hv => ?_) (fun i hi hu v w hg hw => ?_)
  · unfold F3 at hv ⊢
    split
    · rename_i e; subst e; exact ⟨_, wk_0⟩
    · rename_i h0
      rw [if_neg h0] at hv
      omega
  · rw [h i hi] at hu; cases hu
theorem idB_a : idB ⟨#[97]⟩ = true := by kernel_rfl
theorem idB_b : idB ⟨#[98]⟩ = true := by kernel_rfl
theorem idB_c : idB ⟨#[99]⟩ = true := by kernel_rfl
theorem trE3 : firstE (fun i => trE (T3 i)) 3 = 0 := by decide
theorem cbE_one (s : ByteArray) (h : idB s = true) : firstE (cbE (fun _ => ⟨s, 0, 2, 1⟩)) 1 = 0 := firstE_all fun i hi => by
  obtain rfl : i = 0 := by omega
  unfold cbE
  rw [if_neg (by rw [h]; decide), if_neg (by show ¬ (inB 0 0 255 = false ∨ inB 2 0 255 = false ∨ inB 1 1 1000000 = false); decide), if_neg (by show ¬ ((0 : Int) = 2); decide), if_neg (by simp [idsL])]
theorem chk1 (s : ByteArray) (h : idB s = true) : checkF 3 T3 1 (fun _ => ⟨s, 0, 2, 1⟩) = 0 := by
  unfold checkF
  rw [if_neg (by decide), if_neg (by rw [trE3]; decide)]
  exact cbE_one s h
theorem cbE3 : ∀ i, i < 3 → cbE C3 i = 0 := fun i hi => by
  rcases lt3 hi with rfl | rfl | rfl
  · unfold cbE
    rw [if_neg (by rw [show (C3 0).id = ⟨#[97]⟩ from rfl, idB_a]; decide), if_neg (by decide), if_neg (by decide), if_neg (by decide)]
  · unfold cbE
    rw [if_neg (by rw [show (C3 1).id = ⟨#[98]⟩ from rfl, idB_b]; decide), if_neg (by decide), if_neg (by decide), if_neg (by decide)]
  · unfold cbE
    rw [if_neg (by rw [show (C3 2).id = ⟨#[99]⟩ from rfl, idB_c]; decide), if_neg (by decide), if_neg (by decide), if_neg (by decide)]
theorem chkM {m : Nat} (h : m ≤ 3) : checkF 3 T3 m C3 = 0 := by
  unfold checkF
  rw [if_neg (by omega), if_neg (by rw [trE3]; decide)]
  exact firstE_all fun i hi => cbE3 i (by omega)
theorem gr1 {U : Nat → Bool} (h : ∀ i, i < 3 → U i = true) : Gr 3 T3 U (distF 3 T3 U 2) 2 0 [0, 1] := by
  have hD := D1 h
  have e0 : distF 3 T3 U 2 0 = 10 := dist_eq T3_ok hD (by decide)
  have e1 : distF 3 T3 U 2 1 = 5 := dist_eq T3_ok hD (by decide)
  have e2 : distF 3 T3 U 2 2 = 0 := dist_eq T3_ok hD (by decide)
  refine .cons (w := 1) (by decide) ⟨by decide, h 0 (by decide), .inl ⟨rfl, rfl⟩, by rw [e1]; decide, by rw [e0, e1]; decide⟩ (fun j hj => by omega) ?_
  refine .cons (w := 2) (by decide) ⟨by decide, h 1 (by decide), .inl ⟨rfl, rfl⟩, by rw [e2]; decide, by rw [e1, e2]; decide⟩ (fun j hj w' hs => ?_) .nil
  obtain rfl : j = 0 := by omega
  have hg := hs.2.2.1
  have he := hs.2.2.2.2
  rcases hg with ⟨h1, rfl⟩ | ⟨h1, rfl⟩
  · exact absurd h1 (by decide)
  · have e5 : distF 3 T3 U 2 (T3 0).A = 10 := e0
    rw [e5, e1] at he
    exact absurd he (by decide)
theorem gr2 {U : Nat → Bool} (h0 : U 0 = false) (h1 : U 1 = false) (h2 : U 2 = true) : Gr 3 T3 U (distF 3 T3 U 2) 2 0 [2] := by
  have hD := D2 h0 h1 h2
  have e0 : distF 3 T3 U 2 0 = 10 := dist_eq T3_ok hD (by decide)
  have e2 : distF 3 T3 U 2 2 = 0 := dist_eq T3_ok hD (by decide)
  refine .cons (w := 2) (by decide) ⟨by decide, h2, .inl ⟨rfl, rfl⟩, by rw [e2]; decide, by rw [e0, e2]; decide⟩ (fun j hj w' hs => ?_) .nil
  have hu := hs.2.1
  rcases (by omega : j = 0 ∨ j = 1) with rfl | rfl
  · rw [h0] at hu; cases hu
  · rw [h1] at hu; cases hu
/-- the first cable -/
theorem r0 {s : ByteArray} (h : idB s = true) : routeErr 3 T3 3 (fun _ => 0) ⟨s, 0, 2, 1⟩ = 0 ∧ routeP 3 T3 3 (fun _ => 0) ⟨s, 0, 2, 1⟩ = [0, 1] ∧ routeD 3 T3 3 (fun _ => 0) ⟨s, 0, 2, 1⟩ = 10 := by
  have hU : ∀ i, i < 3 → usU T3 (fun _ => 0) ⟨s, 0, 2, 1⟩ i = true := fun i hi => by
    rcases lt3 hi with rfl | rfl | rfl
    · show decide ((1 : Int) ≤ (T3 0).S - 0) = true; decide
    · show decide ((1 : Int) ≤ (T3 1).S - 0) = true; decide
    · show decide ((1 : Int) ≤ (T3 2).S - 0) = true; decide
  have e0 : distF 3 T3 (usU T3 (fun _ => 0) ⟨s, 0, 2, 1⟩) 2 0 = 10 := dist_eq T3_ok (D1 hU) (by decide)
  have h1 : routeErr 3 T3 3 (fun _ => 0) ⟨s, 0, 2, 1⟩ = 0 := (routeErr_4 (chk1 s h) (fun i hi => by decide)).trans (if_neg (show ¬ distF 3 T3 (usU T3 (fun _ => 0) ⟨s, 0, 2, 1⟩) 2 0 < 0 by rw [e0]; decide))
  exact ⟨h1, (if_pos h1).trans (gr_routeL T3_ok (gr1 hU)), (if_pos h1).trans e0⟩
theorem lu1 : ∀ i, i < 3 → layU 3 T3 C3 1 i = if i = 2 then 0 else 1 := fun i hi => by
  have h : layU 3 T3 C3 1 = addQ (fun _ => 0) [0, 1] 1 2 := by
    have e := (r0 idB_a).2.1
    show addQ (layU 3 T3 C3 0) (routeP 3 T3 3 (fun _ => 0) ⟨⟨#[97]⟩, 0, 2, 1⟩) 1 (routeP 3 T3 3 (fun _ => 0) ⟨⟨#[97]⟩, 0, 2, 1⟩).length = _
    rw [e]
    rfl
  rw [h]
  rcases lt3 hi with rfl | rfl | rfl <;> decide
theorem usU_congr {n : Nat} {T : Nat → Tr} {F G : Nat → Int} {c : Cb} (h : ∀ i, i < n → F i = G i) : ∀ i, i < n → usU T F c i = usU T G c i := fun i hi => by unfold usU; rw [h i hi]
theorem r1 : layR 3 T3 C3 1 = 0 ∧ layP 3 T3 C3 1 = [2] := by
  have u0 : usU T3 (layU 3 T3 C3 1) (C3 1) 0 = false := by unfold usU; rw [lu1 0 (by decide)]; decide
  have u1 : usU T3 (layU 3 T3 C3 1) (C3 1) 1 = false := by unfold usU; rw [lu1 1 (by decide)]; decide
  have u2 : usU T3 (layU 3 T3 C3 1) (C3 1) 2 = true := by unfold usU; rw [lu1 2 (by decide)]; decide
  have e0 : distF 3 T3 (usU T3 (layU 3 T3 C3 1) (C3 1)) 2 0 = 10 := dist_eq T3_ok (D2 u0 u1 u2) (by decide)
  have h1 : layR 3 T3 C3 1 = 0 := (routeErr_4 (chk1 _ idB_b) (fun i hi => by rw [lu1 i hi]; split <;> decide)).trans (if_neg (show ¬ distF 3 T3 (usU T3 (layU 3 T3 C3 1) (C3 1)) 2 0 < 0 by rw [e0]; decide))
  exact ⟨h1, (if_pos h1).trans (gr_routeL T3_ok (gr2 u0 u1 u2))⟩
theorem lu2 : ∀ i, i < 3 → layU 3 T3 C3 2 i = 1 := fun i hi => by
  have h : layU 3 T3 C3 2 = addQ (layU 3 T3 C3 1) [2] 1 1 := by
    rw [layU_succ, r1.2]
    rfl
  rw [h]
  unfold addQ
  rw [lu1 i hi]
  rcases lt3 hi with rfl | rfl | rfl <;> decide
theorem r2 : layR 3 T3 C3 2 = 8 := by
  have u : ∀ i, i < 3 → usU T3 (layU 3 T3 C3 2) (C3 2) i = false := fun i hi => by
    unfold usU
    rw [lu2 i hi]
    rcases lt3 hi with rfl | rfl | rfl <;> decide
  have e0 : distF 3 T3 (usU T3 (layU 3 T3 C3 2) (C3 2)) 2 0 = -1 := dist_eq T3_ok (D3 u) (by decide)
  exact (routeErr_4 (chk1 _ idB_c) (fun i hi => by rw [lu2 i hi]; decide)).trans (if_pos (show distF 3 T3 (usU T3 (layU 3 T3 C3 2) (C3 2)) 2 0 < 0 by rw [e0]; decide))
def P2 (k : Nat) : List Nat := if k = 0 then [0, 1] else [2]
theorem lp : ∀ k, k < 2 → layR 3 T3 C3 k = 0 ∧ layP 3 T3 C3 k = P2 k := fun k hk => by
  rcases (by omega : k = 0 ∨ k = 1) with rfl | rfl
  · exact ⟨(r0 idB_a).1, (r0 idB_a).2.1⟩
  · exact r1
theorem le2 : layErr 3 T3 2 C3 = 0 := by
  unfold layErr
  rw [if_neg (by rw [chkM (by decide)]; decide)]
  exact firstE_all fun k hk => (lp k hk).1
theorem le3 : layErr 3 T3 3 C3 = 8 := by
  unfold layErr
  rw [if_neg (by rw [chkM (by decide)]; decide), firstE_hit (j := 2) (fun k hk => (lp k hk).1) (by rw [r2]; decide) (by decide), r2]
def L2 (k : Nat) : Nat := (P2 k).length
def f2 (k : Nat) : Nat → Int := pathF (P2 k)
theorem us2 : usedErr 3 T3 2 C3 2 L2 f2 = 0 := by decide
theorem uu2 : ∀ i, i < 3 → usdU C3 L2 f2 2 i = 1 := fun i hi => by rcases lt3 hi with rfl | rfl | rfl <;> decide
theorem us1 : usedErr 3 T3 1 C3 1 (fun _ => 1) (fun _ _ => 0) = 17 := by decide
def Blk (w : World) (b : Nat) (cs : Array Value) (t : TypeId) : Prop := w.heap[b]? = some (.cells cs t)
theorem Blk.below {w w' : World} {b : Nat} {cs : Array Value} {t : TypeId} (h : Blk w b cs t) (hb : Below w.heap.size w w') : Blk w' b cs t := (hb.block b (block_lt h)).trans h
theorem slice_lit {w : World} {b : Nat} {cs : Array Value} {t : TypeId} (h : Blk w b cs t) (n cap s : Nat) (f : Nat → Nat → Value) (h1 : n ≤ cap) (h2 : cap ≤ 9223372036854775807) (hc : ∀ i j, i < n → j < s → cs[i * s + j]? = some (f i j)) : SliceAt w (.slice (some ⟨b, 0, none⟩) n cap) n s f :=
  ⟨some ⟨b, 0, none⟩, cap, rfl, h1, h2, fun _ => ⟨b, 0, rfl, block_lt h, fun i j hi hj => by
    rw [Nat.zero_add, cell_of_row w b _ cs t (0, 0) h]; exact hc i j hi hj⟩⟩

abbrev cT3 : Array Value := #[.int .i64 0, .int .i64 1, .int .i64 5, .int .i64 1, .int .i64 1, .int .i64 2, .int .i64 5, .int .i64 1, .int .i64 0, .int .i64 2, .int .i64 10, .int .i64 1]
abbrev cC3 : Array Value := #[.string ⟨#[97]⟩, .int .i64 0, .int .i64 2, .int .i64 1, .string ⟨#[98]⟩, .int .i64 0, .int .i64 2, .int .i64 1, .string ⟨#[99]⟩, .int .i64 0, .int .i64 2, .int .i64 1]
theorem trays3 {w : World} {b : Nat} {t : TypeId} (h : Blk w b cT3 t) : TraysAt w (.slice (some ⟨b, 0, none⟩) 3 3) 3 T3 := slice_lit h 3 3 4 _ (by decide) (by decide) (fun i j hi hj => by
  rcases lt3 hi with rfl | rfl | rfl <;> rcases (by omega : j = 0 ∨ j = 1 ∨ j = 2 ∨ j = 3) with rfl | rfl | rfl | rfl <;> rfl)
theorem cabs3 {w : World} {b : Nat} {t : TypeId} (h : Blk w b cC3 t) (k : Nat) (hk : k ≤ 3) : CabsAt w (.slice (some ⟨b, 0, none⟩) k 3) k C3 := slice_lit h k 3 4 _ hk (by decide) (fun i j hi hj => by
  rcases lt3 (i := i) (by omega) with rfl | rfl | rfl <;> rcases (by omega : j = 0 ∨ j = 1 ∨ j = 2 ∨ j = 3) with rfl | rfl | rfl | rfl <;> rfl)
theorem ids3 : ∀ i, i < 3 → (C3 i).id.size ≤ 200 := fun i hi => by rcases lt3 hi with rfl | rfl | rfl <;> decide
theorem al1 (u v : Value) (w : World) (h : TraysAt w u 3 T3) (h' : IntsAt w v 3 (fun _ => 0)) (hml : MaxLenIs w) :
    Calls Tryd.prog 16 #[u, v, .agg #[.string ⟨#[97]⟩, .int .i64 0, .int .i64 2, .int .i64 1]] w fun e w' => ∃ pv, e = .returned (.tuple #[pv, .int .i64 10, .int .i64 0]) ∧ PathAt w' pv [0, 1] ∧ Below w.heap.size w w' := by
  refine (route_any u v 3 3 T3 (fun _ => 0) ⟨#[97]⟩ 0 2 1 w h h' (by decide) hml).mono ?_
  rintro e w' ⟨pv, rfl, h1, -, hb⟩
  obtain ⟨e1, e2, e3⟩ := r0 idB_a
  rw [e1, e3]
  rw [e2] at h1
  exact ⟨pv, rfl, h1, hb⟩
theorem al2 (u c : Value) (w : World) (h : TraysAt w u 3 T3) (h' : CabsAt w c 2 C3) (hml : MaxLenIs w) :
    Calls Tryd.prog 19 #[u, c] w fun e w' => ∃ lv, e = .returned (.tuple #[lv, .int .i64 0]) ∧ IPathsAt w' lv 2 L2 f2 ∧ Below w.heap.size w w' := by
  refine (lay_any u c 3 2 T3 C3 w h h' (fun i hi => ids3 i (by omega)) hml).mono ?_
  rintro e w' ⟨lv, rfl, ⟨pv, h1, h2⟩, hb⟩
  rw [le2] at h1 h2 ⊢
  exact ⟨lv, rfl, ⟨pv, h1, fun k hk => by
    have h3 := h2 k hk
    rw [(lp k hk).2] at h3
    exact h3⟩, hb⟩
theorem al3 (u c : Value) (w : World) (h : TraysAt w u 3 T3) (h' : CabsAt w c 3 C3) (hml : MaxLenIs w) :
    Calls Tryd.prog 19 #[u, c] w fun e w' => ∃ lv, e = .returned (.tuple #[lv, .int .i64 8]) ∧ Below w.heap.size w w' := by
  refine (lay_any u c 3 3 T3 C3 w h h' ids3 hml).mono ?_
  rintro e w' ⟨lv, rfl, -, hb⟩
  rw [le3]
  exact ⟨lv, rfl, hb⟩
theorem al4 (u c p : Value) (w : World) (h : TraysAt w u 3 T3) (h' : CabsAt w c 2 C3) (hp : IPathsAt w p 2 L2 f2) (hml : MaxLenIs w) :
    Calls Tryd.prog 22 #[u, c, p] w fun e w' => ∃ uv, e = .returned (.tuple #[uv, .int .i64 0]) ∧ IntsAt w' uv 3 (fun _ => 1) ∧ Below w.heap.size w w' := by
  refine (used_any u c p 3 2 2 T3 C3 L2 f2 w h h' hp (fun i hi => ids3 i (by omega)) hml).mono ?_
  rintro e w' ⟨uv, rfl, h1, hb⟩
  rw [us2] at h1 ⊢
  exact ⟨uv, rfl, h1.congr uu2, hb⟩
theorem al5 (u c p : Value) (w : World) (h : TraysAt w u 3 T3) (h' : CabsAt w c 1 C3) (hp : IPathsAt w p 1 (fun _ => 1) (fun _ _ => 0)) (hml : MaxLenIs w) :
    Calls Tryd.prog 22 #[u, c, p] w fun e w' => ∃ uv, e = .returned (.tuple #[uv, .int .i64 17]) ∧ Below w.heap.size w w' := by
  refine (used_any u c p 3 1 1 T3 C3 (fun _ => 1) (fun _ _ => 0) w h h' hp (fun i hi => ids3 i (by omega)) hml).mono ?_
  rintro e w' ⟨uv, rfl, h1, hb⟩
  rw [us1]
  exact ⟨uv, rfl, hb⟩
theorem al6 (u c : Value) (w : World) (h : TraysAt w u 3 T3) (h' : CabsAt w c 3 C3) (hml : MaxLenIs w) :
    Calls Tryd.prog 14 #[u, c] w fun e w' => e = .returned (.int .i64 0) ∧ Below w.heap.size w w' := by
  have h1 := check_any u c 3 3 T3 C3 w h h' ids3 hml
  rw [chkM (by decide)] at h1
  exact h1
theorem al7 (w : World) : Calls Tryd.prog 12 #[.agg #[.int .i64 0, .int .i64 0, .int .i64 0, .int .i64 3], .int .i64 1] w fun e w' => e = .returned (.int .i64 334) ∧ Below w.heap.size w w' := by
  have h1 := fill_any 0 0 0 3 1 w
  rw [show fillF 3 1 = 334 by decide] at h1
  exact h1
theorem ints_lit {w : World} {b : Nat} {cs : Array Value} {t : TypeId} (h : Blk w b cs t) (n : Nat) (f : Nat → Int) (h2 : n ≤ 9223372036854775807) (hc : ∀ i, i < n → cs[i]? = some (.int .i64 (f i))) : IntsAt w (.slice (some ⟨b, 0, none⟩) n n) n f := slice_lit h n n 1 _ (Nat.le_refl _) h2 (fun i j hi hj => by
  obtain rfl : j = 0 := by omega
  simpa using hc i hi)
end Go.Proofs.YtpkgadjglidnaaaDoor
