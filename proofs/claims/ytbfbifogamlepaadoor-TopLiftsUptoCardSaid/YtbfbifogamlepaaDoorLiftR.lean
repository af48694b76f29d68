/-
  The arguments opened, and a world for the witness. Conditions: none. By an AI agent.
-/
import Derived.Test.YtbfbifogamlepaaDoorLiftH
import Derived.Test.YtbfbifogamlepaaDoorLiftG
import Derived.Test.YtbfbifogamlepaaDoorLiftD
import Derived.Test.YtbfbifogamlepaaDoorLeaf
import Derived.Test.YtbfbifogamlepaaDoorCards
import Derived.Test.YtbfbifogamlepaaDoorTie
namespace Go.Proofs.YtbfbifogamlepaaDoor
open Go Go.ChangeShapes Go.WideShapes Go.RowKit Go.ChangeAt
set_option linter.unusedSimpArgs false
set_option linter.unusedVariables false
theorem list5 {l : List Int} (h : l.length = 5) : ∃ a b c d e, l = [a, b, c, d, e] := by
  match l, h with
  | [a, b, c, d, e], _ => exact ⟨a, b, c, d, e, rfl⟩
section
variable {H : Type} {enc : TypeId × Value → H} {W : World}
theorem pairs_leaf {fuel : Nat} {v : Value} {x : DataW H × List MemPlace} (h : DataW.trod enc Tryd.prog W 0 (fun _ => true) true fuel 37 [v] = some x) : ∃ n r q, PairsAt W v n r q := by
  rcases leaf_slice (sz := 2) (e := 62) (by kernel_rfl) (by kernel_rfl) h with rfl | ⟨a, len, cap, rfl, hl, hm, hi⟩
  · exact ⟨0, fun _ => 0, fun _ => 0, pairsAt_nil _ _ _⟩
  · obtain ⟨g, hg⟩ := pick_each (α := Int × Int) (n := len) (p := fun i p => W.cell? (a.add (i * 2 + 0)) = some (.int .i64 p.1) ∧ W.cell? (a.add (i * 2 + 1)) = some (.int .i64 p.2)) (fun i hil => by
      obtain ⟨c0, h0, t0⟩ := hi i hil 0 (by omega)
      obtain ⟨c1, h1, t1⟩ := hi i hil 1 (by omega)
      obtain ⟨_, _, t0⟩ := t0 8 3 (by kernel_rfl)
      obtain ⟨_, _, t1⟩ := t1 8 3 (by kernel_rfl)
      obtain ⟨z0, rfl, _⟩ := leaf_i64 Tryd.underlying3 t0
      obtain ⟨z1, rfl, _⟩ := leaf_i64 Tryd.underlying3 t1
      exact ⟨(z0, z1), h0, h1⟩)
    refine ⟨len, fun i => (g i).1, fun i => (g i).2, sliceAt_of _ hl hm (by decide) fun i hil j hj => ?_⟩
    rcases (by omega : j = 0 ∨ j = 1) with rfl | rfl
    · exact (hg i hil).1
    · exact (hg i hil).2
theorem cranes_leaf {fuel : Nat} {v : Value} {x : DataW H × List MemPlace} (h : DataW.trod enc Tryd.prog W 0 (fun _ => true) true fuel 27 [v] = some x) : ∃ n nm cv rn r q, CranesAt W v n nm cv rn r q := by
  rcases leaf_slice (sz := 2) (e := 39) (by kernel_rfl) (by kernel_rfl) h with rfl | ⟨a, len, cap, rfl, hl, hm, hi⟩
  · exact ⟨0, fun _ => ⟨#[]⟩, fun _ => .slice none 0 0, fun _ => 0, fun _ _ => 0, fun _ _ => 0, ⟨none, 0, rfl, by omega, by omega, fun h => by omega⟩, fun i hi => by omega⟩
  · obtain ⟨g, hg⟩ := pick_each (α := ByteArray × Value × Nat × (Nat → Int) × (Nat → Int)) (n := len) (p := fun i p => W.cell? (a.add (i * 2 + 0)) = some (.string p.1) ∧ W.cell? (a.add (i * 2 + 1)) = some p.2.1 ∧ p.1.size ≤ 9223372036854775807 ∧ PairsAt W p.2.1 p.2.2.1 p.2.2.2.1 p.2.2.2.2) (fun i hil => by
      obtain ⟨c0, h0, t0⟩ := hi i hil 0 (by omega)
      obtain ⟨c1, h1, t1⟩ := hi i hil 1 (by omega)
      obtain ⟨_, _, t0⟩ := t0 8 9 (by kernel_rfl)
      obtain ⟨_, _, t1⟩ := t1 8 37 (by kernel_rfl)
      obtain ⟨s, rfl, hs⟩ := leaf_string Tryd.underlying9 t0
      obtain ⟨n, r, q, hp⟩ := pairs_leaf t1
      exact ⟨(s, c1, n, r, q), h0, h1, hs, hp⟩)
    refine ⟨len, fun i => (g i).1, fun i => (g i).2.1, fun i => (g i).2.2.1, fun i => (g i).2.2.2.1, fun i => (g i).2.2.2.2, sliceAt_of _ hl hm (by decide) fun i hil j hj => ?_, fun i hil => ⟨(hg i hil).2.2.1, (hg i hil).2.2.2⟩⟩
    rcases (by omega : j = 0 ∨ j = 1) with rfl | rfl
    · exact (hg i hil).1
    · exact (hg i hil).2.1
theorem hooks_leaf {fuel : Nat} {v : Value} {x : DataW H × List MemPlace} (h : DataW.trod enc Tryd.prog W 0 (fun _ => true) true fuel 22 [v] = some x) : ∃ n cr hx hy hr, HooksAt W v n cr hx hy hr := by
  rcases leaf_slice (sz := 4) (e := 45) (by kernel_rfl) (by kernel_rfl) h with rfl | ⟨a, len, cap, rfl, hl, hm, hi⟩
  · exact ⟨0, fun _ => ⟨#[]⟩, fun _ => 0, fun _ => 0, fun _ => 0, ⟨none, 0, rfl, by omega, by omega, fun h => by omega⟩, fun i hi => by omega⟩
  · obtain ⟨g, hg⟩ := pick_each (α := ByteArray × Int × Int × Int) (n := len) (p := fun i p => W.cell? (a.add (i * 4 + 0)) = some (.string p.1) ∧ W.cell? (a.add (i * 4 + 1)) = some (.int .i64 p.2.1) ∧ W.cell? (a.add (i * 4 + 2)) = some (.int .i64 p.2.2.1) ∧ W.cell? (a.add (i * 4 + 3)) = some (.int .i64 p.2.2.2) ∧ p.1.size ≤ 9223372036854775807) (fun i hil => by
      obtain ⟨c0, h0, t0⟩ := hi i hil 0 (by omega)
      obtain ⟨c1, h1, t1⟩ := hi i hil 1 (by omega)
      obtain ⟨c2, h2, t2⟩ := hi i hil 2 (by omega)
      obtain ⟨c3, h3, t3⟩ := hi i hil 3 (by omega)
      obtain ⟨_, _, t0⟩ := t0 8 9 (by kernel_rfl)
      obtain ⟨_, _, t1⟩ := t1 8 3 (by kernel_rfl)
      obtain ⟨_, _, t2⟩ := t2 8 3 (by kernel_rfl)
      obtain ⟨_, _, t3⟩ := t3 8 3 (by kernel_rfl)
      obtain ⟨s, rfl, hs⟩ := leaf_string Tryd.underlying9 t0
      obtain ⟨z1, rfl, _⟩ := leaf_i64 Tryd.underlying3 t1
      obtain ⟨z2, rfl, _⟩ := leaf_i64 Tryd.underlying3 t2
      obtain ⟨z3, rfl, _⟩ := leaf_i64 Tryd.underlying3 t3
      exact ⟨(s, z1, z2, z3), h0, h1, h2, h3, hs⟩)
    refine ⟨len, fun i => (g i).1, fun i => (g i).2.1, fun i => (g i).2.2.1, fun i => (g i).2.2.2, sliceAt_of _ hl hm (by decide) fun i hil j hj => ?_, fun i hil => (hg i hil).2.2.2.2⟩
    rcases (by omega : j = 0 ∨ j = 1 ∨ j = 2 ∨ j = 3) with rfl | rfl | rfl | rfl
    · exact (hg i hil).1
    · exact (hg i hil).2.1
    · exact (hg i hil).2.2.1
    · exact (hg i hil).2.2.2.1
set_option maxRecDepth 100000 in
theorem cranes_arg {base : Nat} {r : Reach} {v : Value} {d : DataW H} {ps : List MemPlace} (hv : Value.okWide Tryd.prog W r base 27 v) (h : DataW.Trod enc Tryd.prog W 0 (fun _ => true) true 27 v d ps) : ∃ n nm cv rn r q, CranesAt W v n nm cv rn r q := by
  obtain ⟨fuel, hf⟩ := leaf_trod (show Tryd.prog.underlying 27 = some (.slice 39) by kernel_rfl) hv h
  exact cranes_leaf hf
set_option maxRecDepth 100000 in
theorem lift_arg {base : Nat} {r : Reach} {v : Value} {d : DataW H} {ps : List MemPlace} (hv : Value.okWide Tryd.prog W r base 24 v) (h : DataW.Trod enc Tryd.prog W 0 (fun _ => true) true 24 v d ps) :
    ∃ blk v' n cr hx hy hr, v = .agg #[.string blk, v'] ∧ blk.size ≤ 9223372036854775807 ∧ HooksAt W v' n cr hx hy hr := by
  obtain ⟨cs, rfl, hl, hc⟩ := leaf_struct (fs := Tryd.prog.fieldsOf 24) (k := 2) (by kernel_rfl) (by kernel_rfl) hv h
  match cs, hl with
  | [c0, c1], _ =>
    obtain ⟨_, _, t0⟩ := hc 0 c0 rfl 8 9 (by kernel_rfl)
    obtain ⟨_, _, t1⟩ := hc 1 c1 rfl 8 22 (by kernel_rfl)
    obtain ⟨s, rfl, hs⟩ := leaf_string Tryd.underlying9 t0
    obtain ⟨n, cr, hx, hy, hr, hh⟩ := hooks_leaf t1
    exact ⟨s, c1, n, cr, hx, hy, hr, rfl, hs, hh⟩
set_option maxRecDepth 100000 in
theorem hook_arg {base : Nat} {r : Reach} {v : Value} {d : DataW H} {ps : List MemPlace} (hv : Value.okWide Tryd.prog W r base 45 v) (h : DataW.Trod enc Tryd.prog W 0 (fun _ => true) true 45 v d ps) :
    ∃ s x y z, v = .agg #[.string s, .int .i64 x, .int .i64 y, .int .i64 z] ∧ s.size ≤ 9223372036854775807 := by
  obtain ⟨cs, rfl, hl, hc⟩ := leaf_struct (fs := Tryd.prog.fieldsOf 45) (k := 4) (by kernel_rfl) (by kernel_rfl) hv h
  match cs, hl with
  | [c0, c1, c2, c3], _ =>
    obtain ⟨_, _, t0⟩ := hc 0 c0 rfl 8 9 (by kernel_rfl)
    obtain ⟨_, _, t1⟩ := hc 1 c1 rfl 8 3 (by kernel_rfl)
    obtain ⟨_, _, t2⟩ := hc 2 c2 rfl 8 3 (by kernel_rfl)
    obtain ⟨_, _, t3⟩ := hc 3 c3 rfl 8 3 (by kernel_rfl)
    obtain ⟨s, rfl, hs⟩ := leaf_string Tryd.underlying9 t0
    obtain ⟨z1, rfl, _⟩ := leaf_i64 Tryd.underlying3 t1
    obtain ⟨z2, rfl, _⟩ := leaf_i64 Tryd.underlying3 t2
    obtain ⟨z3, rfl, _⟩ := leaf_i64 Tryd.underlying3 t3
    exact ⟨s, z1, z2, z3, rfl, hs⟩
set_option maxRecDepth 100000 in
theorem weight_arg {base : Nat} {r : Reach} {v : Value} {d : DataW H} {ps : List MemPlace} (hv : Value.okWide Tryd.prog W r base 26 v) (h : DataW.Trod enc Tryd.prog W 0 (fun _ => true) true 26 v d ps) :
    ∃ a b c d e : Int, v = .agg #[.int .i64 a, .int .i64 b, .int .i64 c, .int .i64 d, .int .i64 e] := by
  obtain ⟨zs, rfl, hl, hb⟩ := flat_open (n := 8) (fs := Tryd.prog.fieldsOf 26) (k := 5) (by kernel_rfl) (by kernel_rfl) (by kernel_rfl) hv h
  obtain ⟨a, b, c, d, e, rfl⟩ := list5 hl
  exact ⟨a, b, c, d, e, rfl⟩
end
/-- a world for the witness: the settled one, the two tables holding what their initialisers lay -/
noncomputable def laidWorld (os : Os) : World :=
  let w0 := World.holding Tryd.prog os ⟨#[], #[], []⟩
  let put (h : Array Obj) (g : Nat) (cs : Array Value) : Array Obj := h.modify g fun
    | .cells _ t frozen => .cells cs t frozen
    | o => o
  let h1 := put w0.heap 1 (Pinned.utf8FirstZ.map fun (z : Nat) => Value.int .u8 (z : Int)).toArray
  let h2 := put h1 2 #[.int .u8 128, .int .u8 191, .int .u8 160, .int .u8 191, .int .u8 128, .int .u8 159, .int .u8 144, .int .u8 191, .int .u8 128, .int .u8 143, .int .u8 0, .int .u8 0, .int .u8 0, .int .u8 0, .int .u8 0, .int .u8 0, .int .u8 0, .int .u8 0, .int .u8 0, .int .u8 0, .int .u8 0, .int .u8 0, .int .u8 0, .int .u8 0, .int .u8 0, .int .u8 0, .int .u8 0, .int .u8 0, .int .u8 0, .int .u8 0, .int .u8 0, .int .u8 0]
  { w0 with heap := h2 }
end Go.Proofs.YtbfbifogamlepaaDoor
