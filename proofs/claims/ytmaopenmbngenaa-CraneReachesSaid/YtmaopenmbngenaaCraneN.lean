/-
  Arguments that are cranes, opened. Conditions: none. By an AI agent.
-/
import Derived.Test.YtmaopenmbngenaaCraneM
import Derived.Deep.Slices
import Derived.Deep.Fields
import Derived.ChangeSame
import Derived.Lib.SmallJoins
namespace Go.Proofs.Ytmaopenmbngenaa
open Go Go.ChangeShapes Go.WideShapes Go.RowKit Go.ChangeAt
set_option linter.unusedSimpArgs false
set_option linter.unusedVariables false

open Go.Deep Go.Joins
section
variable {H : Type} {enc : TypeId × Value → H} {P : Program} {w : World} {base : Nat}
theorem slice_pairs {t e : TypeId} {f0 f1 : Field} {fuel : Nat} {v : Value} {x : DataW H × List MemPlace} (ht : P.underlying t = some (.slice e)) (hs : P.underlying e = some (.struct #[f0, f1])) (hone : oneCellFields P #[f0, f1] = true) (hC : P.cellsOf e = 2)
    (h : DataW.trod enc P w base (fun _ => true) true fuel t [v] = some x) :
    v = .slice none 0 0 ∨ ∃ a len cap, v = .slice (some a) len cap ∧ len ≤ cap ∧ cap ≤ maxLen ∧ ∀ i, i < len → ∃ v0 v1 y0 y1 k, w.cell? (a.add (i * 2 + 0)) = some v0 ∧ w.cell? (a.add (i * 2 + 1)) = some v1 ∧
      DataW.trod enc P w base (fun _ => true) true k f0.type [v0] = some y0 ∧ DataW.trod enc P w base (fun _ => true) true k f1.type [v1] = some y1 := by
  rcases open_slice ht h with ⟨h0, _⟩ | ⟨a, len, cap, m, n, D, Pl, hcs, _, hl, hm, hmm, _, hi⟩
  · exact .inl (by simpa using h0)
  · refine .inr ⟨a, len, cap, by simpa using hcs, hl, hm, fun i hil => ?_⟩
    have hmc : m = cap := by simpa using hmm
    obtain ⟨cs, hc, hd⟩ := hi i (by omega)
    rw [hC] at hc
    obtain ⟨_, hlen, hat⟩ := World.cells?_some hc
    match cs, hlen with
    | [c0, c1], _ =>
      obtain ⟨y0, y1, k, _, _, h0, h1⟩ := trod_struct2 hs hd
      obtain ⟨o0, k0⟩ := hone_of hone 0 f0 rfl
      obtain ⟨o1, k1⟩ := hone_of hone 1 f1 rfl
      have e0 := hat 0 (by decide)
      have e1 := hat 1 (by decide)
      rw [add_add] at e0 e1
      exact ⟨c0, c1, y0, y1, k, e0, e1, by simpa [o0, k0] using h0, by simpa [o1, k1] using h1⟩
end

theorem cell_at {W : World} {a : Addr} {v : Value} (h : W.cell? a = some v) : a.spot = none ∧ a.block < W.heap.size := by
  unfold World.cell? at h
  split at h
  · rename_i hh
    split at h
    · cases h
    · rename_i hs
      exact ⟨by simpa using hs, (Array.getElem?_eq_some_iff.1 hh).1⟩
  · cases h
theorem sliceAt_of {W : World} {a : Addr} {len cap sz : Nat} (f : Nat → Nat → Value) (hl : len ≤ cap) (hm : cap ≤ maxLen) (hsz : 0 < sz) (hc : ∀ i, i < len → ∀ j, j < sz → W.cell? (a.add (i * sz + j)) = some (f i j)) : SliceAt W (.slice (some a) len cap) len sz f := by
  refine ⟨some a, cap, rfl, hl, hm, fun h0 => ?_⟩
  have h00 := hc 0 h0 0 hsz
  rw [Nat.zero_mul, Nat.zero_add] at h00
  obtain ⟨h1, h2⟩ := cell_at (show W.cell? a = some _ from h00)
  obtain ⟨b, off, sp⟩ := a
  obtain rfl : sp = none := h1
  exact ⟨b, off, rfl, h2, fun i j hi hj => by rw [← Addr.add_lit]; exact hc i hi j hj⟩
def twoB (P : Program) (t a b : TypeId) : Bool := match P.underlying t with
  | some (.struct fs) => oneCellFields P fs && (fs.toList.map (·.type) == [a, b])
  | _ => false
theorem fs2 {P : Program} {t a b : TypeId} (h : twoB P t a b = true) : ∃ f0 f1 : Field, P.underlying t = some (.struct #[f0, f1]) ∧ oneCellFields P #[f0, f1] = true ∧ f0.type = a ∧ f1.type = b := by
  unfold twoB at h
  split at h
  · rename_i fs e
    simp only [Bool.and_eq_true, beq_iff_eq] at h
    obtain ⟨l⟩ := fs
    obtain ⟨h1, h2⟩ := h
    match l, h2 with
    | [f0, f1], h2 => simp at h2; exact ⟨f0, f1, e, h1, h2.1, h2.2⟩
  · cases h
theorem pick_each {α : Type} [Inhabited α] {n : Nat} {p : Nat → α → Prop} (h : ∀ i, i < n → ∃ x, p i x) : ∃ g : Nat → α, ∀ i, i < n → p i (g i) :=
  ⟨fun i => if hi : i < n then Classical.choose (h i hi) else default, fun i hi => by simp only [dif_pos hi]; exact Classical.choose_spec (h i hi)⟩
section
variable {H : Type} {enc : TypeId × Value → H} {W : World}
theorem pairs_of {fuel : Nat} {v : Value} {x : DataW H × List MemPlace} (h : DataW.trod enc Try.prog W 0 (fun _ => true) true fuel 27 [v] = some x) : ∃ n r q, PairsAt W v n r q := by
  obtain ⟨f0, f1, hu, hone, t0, t1⟩ := fs2 (P := Try.prog) (t := 49) (a := 3) (b := 3) (by kernel_rfl)
  rcases slice_pairs (show Try.prog.underlying 27 = some (.slice 49) by kernel_rfl) hu hone (show Try.prog.cellsOf 49 = 2 by kernel_rfl) h with rfl | ⟨a, len, cap, rfl, hl, hm, hi⟩
  · exact ⟨0, fun _ => 0, fun _ => 0, pairsAt_nil _ _ _⟩
  · obtain ⟨g, hg⟩ := pick_each (α := Int × Int) (n := len) (p := fun i p => W.cell? (a.add (i * 2 + 0)) = some (.int .i64 p.1) ∧ W.cell? (a.add (i * 2 + 1)) = some (.int .i64 p.2)) (fun i hil => by
      obtain ⟨v0, v1, y0, y1, k, hc0, hc1, ht0, ht1⟩ := hi i hil
      rw [t0] at ht0
      rw [t1] at ht1
      obtain ⟨z0, e0, -, -⟩ := DataW.trod_int Try.underlying3 ht0
      obtain ⟨z1, e1, -, -⟩ := DataW.trod_int Try.underlying3 ht1
      obtain rfl : v0 = .int .i64 z0 := by simpa using e0
      obtain rfl : v1 = .int .i64 z1 := by simpa using e1
      exact ⟨(z0, z1), hc0, hc1⟩)
    refine ⟨len, fun i => (g i).1, fun i => (g i).2, sliceAt_of _ hl hm (by decide) fun i hil j hj => ?_⟩
    rcases (by omega : j = 0 ∨ j = 1) with rfl | rfl
    · exact (hg i hil).1
    · exact (hg i hil).2
theorem cranes_of {base : Nat} {r : Reach} {v : Value} {d : DataW H} {ps : List MemPlace} (hv : Value.okWide Try.prog W r base 22 v) (h : DataW.Trod enc Try.prog W 0 (fun _ => true) true 22 v d ps) :
    ∃ n nm cv rn r q, CranesAt W v n nm cv rn r q := by
  obtain ⟨a0, len0, cap0, hv0⟩ := okWide_slice (show Try.prog.underlying 22 = some (.slice 29) by kernel_rfl) hv
  obtain ⟨fuel, hf0⟩ := h
  have hf1 : DataW.trod enc Try.prog W 0 (fun _ => true) true fuel 22 [v] = some (d, ps) := by rw [hv0] at hf0 ⊢; exact hf0
  obtain ⟨f0, f1, hu, hone, t0, t1⟩ := fs2 (P := Try.prog) (t := 29) (a := 9) (b := 27) (by kernel_rfl)
  rcases slice_pairs (show Try.prog.underlying 22 = some (.slice 29) by kernel_rfl) hu hone (show Try.prog.cellsOf 29 = 2 by kernel_rfl) hf1 with rfl | ⟨a, len, cap, rfl, hl, hm, hi⟩
  · exact ⟨0, fun _ => ⟨#[]⟩, fun _ => .slice none 0 0, fun _ => 0, fun _ _ => 0, fun _ _ => 0, ⟨none, 0, rfl, by omega, by omega, fun h => by omega⟩, fun i hi => by omega⟩
  · obtain ⟨g, hg⟩ := pick_each (α := ByteArray × Value × Nat × (Nat → Int) × (Nat → Int)) (n := len) (p := fun i p => W.cell? (a.add (i * 2 + 0)) = some (.string p.1) ∧ W.cell? (a.add (i * 2 + 1)) = some p.2.1 ∧ p.1.size ≤ maxLen ∧ PairsAt W p.2.1 p.2.2.1 p.2.2.2.1 p.2.2.2.2) (fun i hil => by
      obtain ⟨v0, v1, y0, y1, k, hc0, hc1, ht0, ht1⟩ := hi i hil
      rw [t0] at ht0
      rw [t1] at ht1
      obtain ⟨s, e0, -, hs⟩ := DataW.trod_string (show Try.prog.underlying 9 = some .string by kernel_rfl) ht0
      obtain rfl : v0 = .string s := by simpa using e0
      obtain ⟨n, r, q, hp⟩ := pairs_of ht1
      exact ⟨(s, v1, n, r, q), hc0, hc1, hs, hp⟩)
    refine ⟨len, fun i => (g i).1, fun i => (g i).2.1, fun i => (g i).2.2.1, fun i => (g i).2.2.2.1, fun i => (g i).2.2.2.2, sliceAt_of _ hl hm (by decide) fun i hil j hj => ?_, fun i hil => ⟨(hg i hil).2.2.1, (hg i hil).2.2.2⟩⟩
    rcases (by omega : j = 0 ∨ j = 1) with rfl | rfl
    · exact (hg i hil).1
    · exact (hg i hil).2.1
theorem crane_of {base : Nat} {r : Reach} {v : Value} {d : DataW H} {ps : List MemPlace} (hv : Value.okWide Try.prog W r base 29 v) (h : DataW.Trod enc Try.prog W 0 (fun _ => true) true 29 v d ps) :
    ∃ s sv n r q, v = .agg #[.string s, sv] ∧ s.size ≤ 9223372036854775807 ∧ PairsAt W sv n r q := by
  obtain ⟨f0, f1, hu, hone, t0, t1⟩ := fs2 (P := Try.prog) (t := 29) (a := 9) (b := 27) (by kernel_rfl)
  obtain ⟨v0, v1, y0, y1, k, rfl, -, -, ht0, ht1⟩ := open_agg2 hu hone (show Try.prog.cellsOf 29 = 2 by kernel_rfl) hv h
  rw [t0] at ht0
  rw [t1] at ht1
  obtain ⟨s, e0, -, hs⟩ := DataW.trod_string (show Try.prog.underlying 9 = some .string by kernel_rfl) ht0
  obtain rfl : v0 = .string s := by simpa using e0
  obtain ⟨n, r, q, hp⟩ := pairs_of ht1
  exact ⟨s, v1, n, r, q, rfl, hs, hp⟩
end
end Go.Proofs.Ytmaopenmbngenaa
