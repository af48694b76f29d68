/-
  Small plain lemmas that all proofs of this seat share: worlds in which nothing old has turned, a drawn region walked once over such worlds, the row of a law that answers true. Conditions: none. By an AI agent.
-/
import Derived.Test.YtgbhhjdmochhpaaGreatDoorProg
import Derived.WalkKit
import Derived.WalkSpells
import Derived.WalkLawsBesides
import Derived.ProofKit
import Derived.OpenShut
import Derived.Handy
import Derived.BigQuiet
import Derived.Lib.Hide
import Derived.Deep.DeepHandedRow
namespace Go.Proofs.YtgbhhjdmochhpaaGreatDoor
open Go.ChangeShapes Go.WideShapes Go.ChangeAt Go.RowKit

/- WORLDS IN WHICH NOTHING OLD HAS TURNED. -/
structure Past (W : World) where
  w : World
  h : Below W.heap.size W w
def Past.here (W : World) : Past W := ⟨W, Below.refl _ _⟩
instance past_nonempty (W : World) : Nonempty (Past W) := ⟨Past.here W⟩
theorem Past.size {W : World} (x : Past W) : W.heap.size ≤ x.w.heap.size := x.h.size
theorem Past.cell {W : World} (x : Past W) (b o : Nat) (h : b < W.heap.size) : x.w.cell? ⟨b, o, none⟩ = W.cell? ⟨b, o, none⟩ := x.h.cell (p := ⟨b, o, none⟩) h
theorem Past.frozen {W : World} (x : Past W) (b o : Nat) (h : b < W.heap.size) : x.w.frozen? ⟨b, o, none⟩ = W.frozen? ⟨b, o, none⟩ := x.h.frozen (p := ⟨b, o, none⟩) h

theorem bcell {W w1 : World} (hb : Below W.heap.size W w1) : (∀ b o, b < W.heap.size → w1.cell? ⟨b, o, none⟩ = W.cell? ⟨b, o, none⟩) ∧ (∀ b o, b < W.heap.size → w1.frozen? ⟨b, o, none⟩ = W.frozen? ⟨b, o, none⟩) :=
  ⟨fun b o h => hb.cell (p := ⟨b, o, none⟩) h, fun b o h => hb.frozen (p := ⟨b, o, none⟩) h⟩

theorem below_drewN {B : Nat} {a w : World} (h : Below B a w) (n : Nat) : Below B a (w.drewN n) := ⟨h.os, h.tape, h.output, h.size, h.block⟩

theorem below_step {w W w1 : World} (h : Below w.heap.size w W) (hb : Below W.heap.size W w1) : Below w.heap.size w w1 := h.trans (hb.mono h.size)
theorem past_cell (W : World) (x : Past W) (b o : Nat) (h : b < W.heap.size) : x.w.cell? ⟨b, o, none⟩ = W.cell? ⟨b, o, none⟩ := x.cell b o h

theorem past_out {W w' : World} (h : ∃ x : Past W, w' = x.w) : Below W.heap.size W w' := by obtain ⟨x, rfl⟩ := h; exact x.h

/- A REGION THAT DRAWS ITS ORDER, WALKED ONCE OVER THE WORLDS 'Past w'. -/
theorem wp_region_past {P : Program} {id : Nat} {Q : Exit → Act → World → Prop} {a : Act} {w : World} {l : List Oper} (hm : P.follows .mixedOrders = true) (hB : Region.lexB .any l.toArray = true)
    (h : wpQuiet P l.toArray (fun w' => ∃ x : Past w, w' = x.w) (fun a' => ∀ w', (∃ x : Past w, w' = x.w) → Q .normal a' w') l a) : (Code.region id l.toArray true).wp P Q a w :=
  wp_region_quiet (C := fun w' => ∃ x : Past w, w' = x.w) hm hB ⟨⟨{ w with drawn := w.drawn + 1 }, ⟨rfl, rfl, rfl, Nat.le_refl _, fun _ _ => rfl⟩⟩, rfl⟩ (by simpa using h)

/- A CALLEE's CONTRACT, MET THERE. -/
theorem past_of {P : Program} {f : FuncId} {args : Array Value} {w : World} {x : Past w} {v : Value}
    (h : Calls P f args x.w fun e w' => e = .returned v ∧ Below x.w.heap.size x.w w') : Calls P f args x.w fun e w'' => e = .returned v ∧ ∃ y : Past w, w'' = y.w :=
  h.mono fun _ w' ⟨he, hb⟩ => ⟨he, ⟨w', x.h.trans (hb.mono x.size)⟩, rfl⟩

/- THE ROW'S LAST STEP WHERE OF THE LAST WORLD 'Below' ALONE IS KNOWN. -/
section
variable {H : Type} {enc : TypeId × Value → H} {P : Program}
theorem post_of_below {f : Func} {s : ChangeSpec} {apart fresh handsOn : Bool} {W W' : World} {args : Array Value} {v : Value} {ds gs : List (DataW H)} {before pa pv : List MemPlace}
    (hW : DataW.Whole enc P f.params.toList s.vars apart W args.toList ds gs before)
    (hres : ∀ (b : Nat) (sp : Nat → Bool) (hd : Bool), DataW.TrodAll enc P W' b sp hd f.resultTypes.toList (v.resultList f.resultTypes.size) (s.fn H (ds ++ gs)).results [])
    (hargs : DataW.TrodAll enc P W' 0 (fun b => decide (b < W.heap.size)) true f.params.toList args.toList (s.fn H (ds ++ gs)).args pa)
    (hvars : DataW.TrodVars enc P W' (fun b => decide (b < W.heap.size)) s.vars (s.fn H (ds ++ gs)).vars pv)
    (hb : Below W.heap.size W W') : s.post enc P f apart fresh handsOn false W args v W' :=
  ⟨ds, gs, before, [], pa, pv, hW, hres _ _ _, hargs, hvars, hb.frame _, fun h => by cases h⟩

theorem trodAll_below (hl : laidOutB P = true) {W W' : World} (hb : Below W.heap.size W W') : ∀ (ts : List TypeId) (vs : List Value) (ds : List (DataW H)) (ps : List MemPlace),
    (∀ t ∈ ts, P.readableRec t = true ∧ t < P.types.size) → DataW.TrodAll enc P W 0 (fun _ => true) true ts vs ds ps → (∀ x ∈ ps, x.block < W.heap.size) →
    DataW.TrodAll enc P W' 0 (fun b => decide (b < W.heap.size)) true ts vs ds ps
  | [], [], [], _, _, h, _ => h
  | t :: ts, v :: vs, d :: ds, ps, ht, h, hlt => by
    obtain ⟨p, q, h1, h2, rfl⟩ := h
    exact ⟨p, q, Below.trod hl (ht t (by simp)).1 (ht t (by simp)).2 h1 hb (fun x hx => hlt x (by simp [hx])), trodAll_below hl hb ts vs ds q (fun t h => ht t (by simp [h])) h2 (fun x hx => hlt x (by simp [hx])), rfl⟩
  | [], _ :: _, _, _, _, h, _ => h.elim
  | [], [], _ :: _, _, _, h, _ => h.elim
  | _ :: _, [], _, _, _, h, _ => h.elim
  | _ :: _, _ :: _, [], _, _, h, _ => h.elim

/- A LAW: IT ANSWERS true, AND ITS ARGUMENTS READ AS THEY DID. -/
theorem law_post {f : Func} {s : ChangeSpec} {apart fresh handsOn : Bool} {W W' : World} {args : Array Value} {ds gs : List (DataW H)} {before : List MemPlace}
    (hl : laidOutB P = true) (hr : (f.params.toList.all fun t => P.readableRec t && decide (t < P.types.size)) = true) (hres : f.resultTypes = #[4]) (hbool : P.underlying 4 = some .bool) (hv : s.vars = [])
    (hW : DataW.Whole enc P f.params.toList s.vars apart W args.toList ds gs before)
    (hs : gs = [] → s.fn H (ds ++ []) = { results := [.lit (.bool true)], args := ds }) (hb : Below W.heap.size W W') : s.post enc P f apart fresh handsOn false W args (.bool true) W' := by
  have hlt : ∀ p ∈ before, p.block < W.heap.size := fun p hp => hW.lt p hp
  have hW' := hW
  obtain ⟨p, q, hA, hV, rfl, _, _⟩ := hW
  rw [hv] at hV
  have hg : gs = [] ∧ q = [] := by
    cases gs with
    | nil => exact ⟨rfl, hV⟩
    | cons g r => exact absurd hV (by intro h; cases h)
  obtain ⟨rfl, rfl⟩ := hg
  refine post_of_below (pa := p) (pv := []) hW' ?_ ?_ ?_ hb
  · intro b sp hd
    rw [hs rfl, hres]
    exact trodAll_mk1 (shut_bool hbool true)
  · rw [hs rfl]
    exact trodAll_below hl hb _ _ _ _ (fun t ht => by simpa using List.all_eq_true.1 hr t ht) hA (fun x hx => hlt x (by simp [hx]))
  · rw [hv, hs rfl]
    rfl
end

/- ARGUMENTS THAT ARE STRUCTS AND ARRAYS OF INTS, NESTED AS THEY MAY BE: THEIR CELLS. -/
def flatB (P : Program) : Nat → TypeId → Bool
  | 0, _ => false
  | n + 1, t => match P.underlying t with
    | some (.int .i64) => true
    | some (.struct fs) => (List.range (P.cellsOf t)).all fun j => fs.toList.any fun f => decide (f.offset ≤ j) && decide (j < f.offset + P.cellsOf f.type) && flatB P n f.type
    | some (.array m e) => flatB P n e && decide (0 < P.cellsOf e) && decide (P.cellsOf t = m * P.cellsOf e)
    | _ => false

theorem mem_window {cs : List Value} {o k j : Nat} (h1 : o ≤ j) (h2 : j < o + k) (hj : j < cs.length) : cs[j] ∈ (cs.drop o).take k := by
  rw [List.mem_iff_getElem]
  refine ⟨j - o, by simp; omega, ?_⟩
  simp only [List.getElem_take, List.getElem_drop]
  congr 1
  omega

theorem flat_cells {H : Type} {enc : TypeId × Value → H} {P : Program} {w : World} {base : Nat} {spare : Nat → Bool} {held : Bool} : ∀ (n : Nat) (t : TypeId), flatB P n t = true → ∀ (fuel : Nat) (cs : List Value) (x : DataW H × List MemPlace),
    DataW.trod enc P w base spare held fuel t cs = some x → ∀ v ∈ cs, ∃ z : Int, v = .int .i64 z ∧ (Lit.int .i64 z).wf = true
  | 0, _, h, _, _, _, _ => by simp [flatB] at h
  | n + 1, t, h, fuel, cs, x, hx => by
    intro v hv
    unfold flatB at h
    split at h
    · rename_i hu
      obtain ⟨z, rfl, _, hz⟩ := DataW.trod_int hu hx
      simp only [List.mem_singleton] at hv
      exact ⟨z, hv, hz⟩
    · rename_i fs hu
      obtain ⟨xs, m, _, _, hlen, hxl, hf⟩ := DataW.trod_struct hu hx
      obtain ⟨j, hj, rfl⟩ := List.mem_iff_getElem.1 hv
      have h1 := List.all_eq_true.1 h j (List.mem_range.2 (by omega))
      obtain ⟨f, hfm, h2⟩ := List.any_eq_true.1 h1
      simp only [Bool.and_eq_true, decide_eq_true_eq] at h2
      obtain ⟨i, hi, hfi⟩ := List.mem_iff_getElem.1 hfm
      have h3 := hf i f (by simp at hi; rw [← hfi]; simp)
      have hi' : i < xs.length := by rw [hxl]; simpa using hi
      rw [List.getElem?_eq_getElem hi'] at h3
      exact flat_cells n f.type h2.2 m _ _ h3 _ (mem_window h2.1.1 h2.1.2 hj)
    · rename_i m e hu
      simp only [Bool.and_eq_true, decide_eq_true_eq] at h
      obtain ⟨xs, k, _, _, hlen, hxl, hf⟩ := DataW.trod_array hu hx
      obtain ⟨j, hj, rfl⟩ := List.mem_iff_getElem.1 hv
      obtain ⟨⟨h1, h2⟩, h3⟩ := h
      have hq : j / P.cellsOf e < m := by
        apply Nat.div_lt_of_lt_mul
        rw [Nat.mul_comm, ← h3, ← hlen]; exact hj
      have h4 := hf _ hq
      rw [List.getElem?_eq_getElem (by omega)] at h4
      have hd := Nat.div_add_mod j (P.cellsOf e)
      have hmod := Nat.mod_lt j h2
      rw [Nat.mul_comm] at hd
      exact flat_cells n e h1 k _ _ h4 _ (mem_window (by omega) (by omega) hj)
    · simp at h

/-- The cells of such an argument, as ints. -/
theorem flat_open {H : Type} {enc : TypeId × Value → H} {P : Program} {w : World} {base : Nat} {spare : Nat → Bool} {held : Bool} {n : Nat} {t : TypeId} {fs : Array Field} {k : Nat} {v : Value} {d : DataW H} {ps : List MemPlace} {r : Reach} {b0 : Nat}
    (hu : P.underlying t = some (.struct fs)) (hc : P.cellsOf t = k) (hfl : flatB P n t = true) (hv : Value.okWide P w r b0 t v) (h : DataW.Trod enc P w base spare held t v d ps) :
    ∃ zs : List Int, v = .agg (zs.map (Value.int .i64)).toArray ∧ zs.length = k ∧ ∀ z ∈ zs, -9223372036854775808 ≤ z ∧ z ≤ 9223372036854775807 := by
  obtain ⟨⟨l⟩, rfl, hsz⟩ := okWide_struct hu hv
  obtain ⟨fuel, hf⟩ := h
  have hcells := flat_cells n t hfl fuel l _ (by simpa [Value.cells] using hf)
  have : ∀ l : List Value, (∀ v ∈ l, ∃ z : Int, v = .int .i64 z ∧ (Lit.int .i64 z).wf = true) → ∃ zs : List Int, l = zs.map (Value.int .i64) ∧ ∀ z ∈ zs, -9223372036854775808 ≤ z ∧ z ≤ 9223372036854775807 := by
    intro l
    induction l with
    | nil => exact fun _ => ⟨[], rfl, by simp⟩
    | cons v l ih =>
      intro h
      obtain ⟨zs, hz, hb⟩ := ih (fun v hv => h v (by simp [hv]))
      obtain ⟨z, hv, hw⟩ := h v (by simp)
      refine ⟨z :: zs, by simp [hv, hz], ?_⟩
      intro y hy
      rcases List.mem_cons.1 hy with rfl | hy
      · simpa [Lit.wf, IntKind.min, IntKind.max, IntKind.signed, IntKind.bits] using hw
      · exact hb y hy
  obtain ⟨zs, rfl, hb⟩ := this l hcells
  exact ⟨zs, rfl, by simpa using hsz.trans hc, hb⟩

theorem list3 {l : List Int} (h : l.length = 3) : ∃ a b c, l = [a, b, c] := by
  match l, h with
  | [a, b, c], _ => exact ⟨a, b, c, rfl⟩
theorem list4 {l : List Int} (h : l.length = 4) : ∃ a b c d, l = [a, b, c, d] := by
  match l, h with
  | [a, b, c, d], _ => exact ⟨a, b, c, d, rfl⟩
theorem list6 {l : List Int} (h : l.length = 6) : ∃ a b c d e f, l = [a, b, c, d, e, f] := by
  match l, h with
  | [a, b, c, d, e, f], _ => exact ⟨a, b, c, d, e, f, rfl⟩
theorem list9 {l : List Int} (h : l.length = 9) : ∃ a b c d e f g i j, l = [a, b, c, d, e, f, g, i, j] := by
  match l, h with
  | [a, b, c, d, e, f, g, i, j], _ => exact ⟨a, b, c, d, e, f, g, i, j, rfl⟩
theorem own : ownKnob Tryz.prog.godebug = none := by kernel_rfl
theorem laidOut : laidOutB Tryz.prog = true := by kernel_rfl
end Go.Proofs.YtgbhhjdmochhpaaGreatDoor
