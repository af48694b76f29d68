/-
  The arguments opened, and a world for the witness. Conditions: none. By an AI agent.
-/
import Derived.Test.YtiddpaaihloopaaGreatDoorChkB
import Derived.Test.YtiddpaaihloopaaGreatDoorAdd
import Derived.Test.YtiddpaaihloopaaGreatDoorLeaf
import Derived.Test.YtiddpaaihloopaaGreatDoorCards
import Derived.Test.YtiddpaaihloopaaGreatDoorTie
namespace Go.Proofs.YtiddpaaihloopaaGreatDoor
open Go Go.ChangeShapes Go.WideShapes Go.RowKit Go.ChangeAt
set_option linter.unusedSimpArgs false
set_option linter.unusedVariables false
instance : Inhabited Sh := ⟨Sh.none⟩
instance : Inhabited Br := ⟨Br.none⟩
section
variable {H : Type} {enc : TypeId × Value → H} {W : World}
theorem sheets_leaf {fuel : Nat} {v : Value} {x : DataW H × List MemPlace} (h : DataW.trod enc Tryz.prog W 0 (fun _ => true) true fuel 22 [v] = some x) : ∃ n e, ShAt W v n e := by
  rcases leaf_slice (sz := 6) (e := 31) (by kernel_rfl) (by kernel_rfl) h with rfl | ⟨a, len, cap, rfl, hl, hm, hi⟩
  · exact ⟨0, (fun _ => Sh.none), nil_Sheet _ _⟩
  · obtain ⟨g, hg⟩ := pick_each (α := Sh) (n := len) (p := fun i p => W.cell? (a.add (i * 6 + 0)) = some (.string p.id) ∧ W.cell? (a.add (i * 6 + 1)) = some (.string p.grade) ∧ W.cell? (a.add (i * 6 + 2)) = some (.int .i64 p.thick) ∧ W.cell? (a.add (i * 6 + 3)) = some (.int .i64 p.len) ∧ W.cell? (a.add (i * 6 + 4)) = some (.int .i64 p.wid) ∧ W.cell? (a.add (i * 6 + 5)) = some (.string p.heat)) (fun i hil => by
      obtain ⟨c0, h0, t0⟩ := hi i hil 0 (by omega)
      obtain ⟨c1, h1, t1⟩ := hi i hil 1 (by omega)
      obtain ⟨c2, h2, t2⟩ := hi i hil 2 (by omega)
      obtain ⟨c3, h3, t3⟩ := hi i hil 3 (by omega)
      obtain ⟨c4, h4, t4⟩ := hi i hil 4 (by omega)
      obtain ⟨c5, h5, t5⟩ := hi i hil 5 (by omega)
      obtain ⟨_, _, t0⟩ := t0 8 9 (by kernel_rfl)
      obtain ⟨_, _, t1⟩ := t1 8 9 (by kernel_rfl)
      obtain ⟨_, _, t2⟩ := t2 8 3 (by kernel_rfl)
      obtain ⟨_, _, t3⟩ := t3 8 3 (by kernel_rfl)
      obtain ⟨_, _, t4⟩ := t4 8 3 (by kernel_rfl)
      obtain ⟨_, _, t5⟩ := t5 8 9 (by kernel_rfl)
      obtain ⟨z0, rfl, _⟩ := leaf_string Tryz.underlying9 t0
      obtain ⟨z1, rfl, _⟩ := leaf_string Tryz.underlying9 t1
      obtain ⟨z2, rfl, _⟩ := leaf_i64 Tryz.underlying3 t2
      obtain ⟨z3, rfl, _⟩ := leaf_i64 Tryz.underlying3 t3
      obtain ⟨z4, rfl, _⟩ := leaf_i64 Tryz.underlying3 t4
      obtain ⟨z5, rfl, _⟩ := leaf_string Tryz.underlying9 t5
      exact ⟨⟨z0, z1, z2, z3, z4, z5⟩, h0, h1, h2, h3, h4, h5⟩)
    refine ⟨len, g, sliceAt_of _ hl hm (by decide) fun i hil j hj => ?_⟩
    rcases (by omega : j = 0 ∨ j = 1 ∨ j = 2 ∨ j = 3 ∨ j = 4 ∨ j = 5) with rfl | rfl | rfl | rfl | rfl | rfl
    · exact (hg i hil).1
    · exact (hg i hil).2.1
    · exact (hg i hil).2.2.1
    · exact (hg i hil).2.2.2.1
    · exact (hg i hil).2.2.2.2.1
    · exact (hg i hil).2.2.2.2.2
theorem bars_leaf {fuel : Nat} {v : Value} {x : DataW H × List MemPlace} (h : DataW.trod enc Tryz.prog W 0 (fun _ => true) true fuel 23 [v] = some x) : ∃ n e, BrAt W v n e := by
  rcases leaf_slice (sz := 5) (e := 33) (by kernel_rfl) (by kernel_rfl) h with rfl | ⟨a, len, cap, rfl, hl, hm, hi⟩
  · exact ⟨0, (fun _ => Br.none), nil_Bar _ _⟩
  · obtain ⟨g, hg⟩ := pick_each (α := Br) (n := len) (p := fun i p => W.cell? (a.add (i * 5 + 0)) = some (.string p.id) ∧ W.cell? (a.add (i * 5 + 1)) = some (.string p.sect) ∧ W.cell? (a.add (i * 5 + 2)) = some (.string p.grade) ∧ W.cell? (a.add (i * 5 + 3)) = some (.int .i64 p.len) ∧ W.cell? (a.add (i * 5 + 4)) = some (.string p.heat)) (fun i hil => by
      obtain ⟨c0, h0, t0⟩ := hi i hil 0 (by omega)
      obtain ⟨c1, h1, t1⟩ := hi i hil 1 (by omega)
      obtain ⟨c2, h2, t2⟩ := hi i hil 2 (by omega)
      obtain ⟨c3, h3, t3⟩ := hi i hil 3 (by omega)
      obtain ⟨c4, h4, t4⟩ := hi i hil 4 (by omega)
      obtain ⟨_, _, t0⟩ := t0 8 9 (by kernel_rfl)
      obtain ⟨_, _, t1⟩ := t1 8 9 (by kernel_rfl)
      obtain ⟨_, _, t2⟩ := t2 8 9 (by kernel_rfl)
      obtain ⟨_, _, t3⟩ := t3 8 3 (by kernel_rfl)
      obtain ⟨_, _, t4⟩ := t4 8 9 (by kernel_rfl)
      obtain ⟨z0, rfl, _⟩ := leaf_string Tryz.underlying9 t0
      obtain ⟨z1, rfl, _⟩ := leaf_string Tryz.underlying9 t1
      obtain ⟨z2, rfl, _⟩ := leaf_string Tryz.underlying9 t2
      obtain ⟨z3, rfl, _⟩ := leaf_i64 Tryz.underlying3 t3
      obtain ⟨z4, rfl, _⟩ := leaf_string Tryz.underlying9 t4
      exact ⟨⟨z0, z1, z2, z3, z4⟩, h0, h1, h2, h3, h4⟩)
    refine ⟨len, g, sliceAt_of _ hl hm (by decide) fun i hil j hj => ?_⟩
    rcases (by omega : j = 0 ∨ j = 1 ∨ j = 2 ∨ j = 3 ∨ j = 4) with rfl | rfl | rfl | rfl | rfl
    · exact (hg i hil).1
    · exact (hg i hil).2.1
    · exact (hg i hil).2.2.1
    · exact (hg i hil).2.2.2.1
    · exact (hg i hil).2.2.2.2
theorem ints_leaf {fuel : Nat} {v : Value} {x : DataW H × List MemPlace} (h : DataW.trod enc Tryz.prog W 0 (fun _ => true) true fuel 83 [v] = some x) : ∃ n f, IntsAt W v n f := by
  rcases leaf_slice (sz := 1) (e := 3) (by kernel_rfl) (by kernel_rfl) h with rfl | ⟨a, len, cap, rfl, hl, hm, hi⟩
  · exact ⟨0, fun _ => 0, intsAt_nil _ _⟩
  · obtain ⟨g, hg⟩ := pick_each (α := Int) (n := len) (p := fun i p => W.cell? (a.add (i * 1 + 0)) = some (.int .i64 p)) (fun i hil => by
      obtain ⟨c0, h0, t0⟩ := hi i hil 0 (by omega)
      obtain ⟨_, _, t0⟩ := t0 8 3 (by kernel_rfl)
      obtain ⟨z0, rfl, _⟩ := leaf_i64 Tryz.underlying3 t0
      exact ⟨z0, h0⟩)
    refine ⟨len, g, sliceAt_of _ hl hm (by decide) fun i hil j hj => ?_⟩
    obtain rfl : j = 0 := by omega
    exact hg i hil
theorem grades_leaf {fuel : Nat} {v : Value} {x : DataW H × List MemPlace} (h : DataW.trod enc Tryz.prog W 0 (fun _ => true) true fuel 26 [v] = some x) :
    ∃ (n : Nat) (nm : Nat → ByteArray) (de yi : Nat → Int) (gv : Nat → Value) (gn : Nat → Nat) (gf : Nat → Nat → Int), SliceAt W v n 4 (fun i j => match j with | 0 => .string (nm i) | 1 => .int .i64 (de i) | 2 => .int .i64 (yi i) | _ => gv i) ∧ ∀ i, i < n → IntsAt W (gv i) (gn i) (gf i) := by
  rcases leaf_slice (sz := 4) (e := 85) (by kernel_rfl) (by kernel_rfl) h with rfl | ⟨a, len, cap, rfl, hl, hm, hi⟩
  · exact ⟨0, fun _ => ⟨#[]⟩, fun _ => 0, fun _ => 0, fun _ => .slice none 0 0, fun _ => 0, fun _ _ => 0, ⟨none, 0, rfl, by omega, by omega, fun h => by omega⟩, fun i hi => by omega⟩
  · obtain ⟨g, hg⟩ := pick_each (α := ByteArray × Int × Int × Value × Nat × (Nat → Int)) (n := len) (p := fun i p => W.cell? (a.add (i * 4 + 0)) = some (.string p.1) ∧ W.cell? (a.add (i * 4 + 1)) = some (.int .i64 p.2.1) ∧ W.cell? (a.add (i * 4 + 2)) = some (.int .i64 p.2.2.1) ∧ W.cell? (a.add (i * 4 + 3)) = some p.2.2.2.1 ∧ IntsAt W p.2.2.2.1 p.2.2.2.2.1 p.2.2.2.2.2) (fun i hil => by
      obtain ⟨c0, h0, t0⟩ := hi i hil 0 (by omega)
      obtain ⟨c1, h1, t1⟩ := hi i hil 1 (by omega)
      obtain ⟨c2, h2, t2⟩ := hi i hil 2 (by omega)
      obtain ⟨c3, h3, t3⟩ := hi i hil 3 (by omega)
      obtain ⟨_, _, t0⟩ := t0 8 9 (by kernel_rfl)
      obtain ⟨_, _, t1⟩ := t1 8 3 (by kernel_rfl)
      obtain ⟨_, _, t2⟩ := t2 8 3 (by kernel_rfl)
      obtain ⟨_, _, t3⟩ := t3 8 83 (by kernel_rfl)
      obtain ⟨z0, rfl, _⟩ := leaf_string Tryz.underlying9 t0
      obtain ⟨z1, rfl, _⟩ := leaf_i64 Tryz.underlying3 t1
      obtain ⟨z2, rfl, _⟩ := leaf_i64 Tryz.underlying3 t2
      obtain ⟨n, f, hp⟩ := ints_leaf t3
      exact ⟨(z0, z1, z2, c3, n, f), h0, h1, h2, h3, hp⟩)
    refine ⟨len, fun i => (g i).1, fun i => (g i).2.1, fun i => (g i).2.2.1, fun i => (g i).2.2.2.1, fun i => (g i).2.2.2.2.1, fun i => (g i).2.2.2.2.2, sliceAt_of _ hl hm (by decide) fun i hil j hj => ?_, fun i hil => (hg i hil).2.2.2.2⟩
    rcases (by omega : j = 0 ∨ j = 1 ∨ j = 2 ∨ j = 3) with rfl | rfl | rfl | rfl
    · exact (hg i hil).1
    · exact (hg i hil).2.1
    · exact (hg i hil).2.2.1
    · exact (hg i hil).2.2.2.1
theorem sections_leaf {fuel : Nat} {v : Value} {x : DataW H × List MemPlace} (h : DataW.trod enc Tryz.prog W 0 (fun _ => true) true fuel 27 [v] = some x) :
    ∃ (n : Nat) (sn : Nat → ByteArray) (sa sh ss : Nat → Int), SliceAt W v n 4 (fun i j => match j with | 0 => .string (sn i) | 1 => .int .i64 (sa i) | 2 => .int .i64 (sh i) | _ => .int .i64 (ss i)) := by
  rcases leaf_slice (sz := 4) (e := 87) (by kernel_rfl) (by kernel_rfl) h with rfl | ⟨a, len, cap, rfl, hl, hm, hi⟩
  · exact ⟨0, fun _ => ⟨#[]⟩, fun _ => 0, fun _ => 0, fun _ => 0, ⟨none, 0, rfl, by omega, by omega, fun h => by omega⟩⟩
  · obtain ⟨g, hg⟩ := pick_each (α := ByteArray × Int × Int × Int) (n := len) (p := fun i p => W.cell? (a.add (i * 4 + 0)) = some (.string p.1) ∧ W.cell? (a.add (i * 4 + 1)) = some (.int .i64 p.2.1) ∧ W.cell? (a.add (i * 4 + 2)) = some (.int .i64 p.2.2.1) ∧ W.cell? (a.add (i * 4 + 3)) = some (.int .i64 p.2.2.2)) (fun i hil => by
      obtain ⟨c0, h0, t0⟩ := hi i hil 0 (by omega)
      obtain ⟨c1, h1, t1⟩ := hi i hil 1 (by omega)
      obtain ⟨c2, h2, t2⟩ := hi i hil 2 (by omega)
      obtain ⟨c3, h3, t3⟩ := hi i hil 3 (by omega)
      obtain ⟨_, _, t0⟩ := t0 8 9 (by kernel_rfl)
      obtain ⟨_, _, t1⟩ := t1 8 3 (by kernel_rfl)
      obtain ⟨_, _, t2⟩ := t2 8 3 (by kernel_rfl)
      obtain ⟨_, _, t3⟩ := t3 8 3 (by kernel_rfl)
      obtain ⟨z0, rfl, _⟩ := leaf_string Tryz.underlying9 t0
      obtain ⟨z1, rfl, _⟩ := leaf_i64 Tryz.underlying3 t1
      obtain ⟨z2, rfl, _⟩ := leaf_i64 Tryz.underlying3 t2
      obtain ⟨z3, rfl, _⟩ := leaf_i64 Tryz.underlying3 t3
      exact ⟨(z0, z1, z2, z3), h0, h1, h2, h3⟩)
    refine ⟨len, fun i => (g i).1, fun i => (g i).2.1, fun i => (g i).2.2.1, fun i => (g i).2.2.2, sliceAt_of _ hl hm (by decide) fun i hil j hj => ?_⟩
    rcases (by omega : j = 0 ∨ j = 1 ∨ j = 2 ∨ j = 3) with rfl | rfl | rfl | rfl
    · exact (hg i hil).1
    · exact (hg i hil).2.1
    · exact (hg i hil).2.2.1
    · exact (hg i hil).2.2.2
set_option maxRecDepth 100000 in
theorem stock_arg {base : Nat} {r : Reach} {v : Value} {d : DataW H} {ps : List MemPlace} (hv : Value.okWide Tryz.prog W r base 25 v) (h : DataW.Trod enc Tryz.prog W 0 (fun _ => true) true 25 v d ps) : ∃ ns es nb eb, StAt W v ns es nb eb := by
  obtain ⟨cs, rfl, hl, hc⟩ := leaf_struct (fs := Tryz.prog.fieldsOf 25) (k := 2) (by kernel_rfl) (by kernel_rfl) hv h
  match cs, hl with
  | [c0, c1], _ =>
    obtain ⟨_, _, t0⟩ := hc 0 c0 rfl 8 22 (by kernel_rfl)
    obtain ⟨_, _, t1⟩ := hc 1 c1 rfl 8 23 (by kernel_rfl)
    obtain ⟨ns, es, h0⟩ := sheets_leaf t0
    obtain ⟨nb, eb, h1⟩ := bars_leaf t1
    exact ⟨ns, es, nb, eb, c0, c1, rfl, h0, h1⟩
set_option maxRecDepth 100000 in
theorem mat_arg {base : Nat} {r : Reach} {v : Value} {d : DataW H} {ps : List MemPlace} (hv : Value.okWide Tryz.prog W r base 29 v) (h : DataW.Trod enc Tryz.prog W 0 (fun _ => true) true 29 v d ps) : ∃ vg vs m gv, v = .agg #[vg, vs] ∧ GrAt W vg m gv ∧ SeAt W vs m := by
  obtain ⟨cs, rfl, hl, hc⟩ := leaf_struct (fs := Tryz.prog.fieldsOf 29) (k := 2) (by kernel_rfl) (by kernel_rfl) hv h
  match cs, hl with
  | [c0, c1], _ =>
    obtain ⟨_, _, t0⟩ := hc 0 c0 rfl 8 26 (by kernel_rfl)
    obtain ⟨_, _, t1⟩ := hc 1 c1 rfl 8 27 (by kernel_rfl)
    obtain ⟨n, nm, de, yi, gv, gn, gf, h0, h1⟩ := grades_leaf t0
    obtain ⟨k, sn, sa, sh, ss, h2⟩ := sections_leaf t1
    exact ⟨c0, c1, ⟨n, nm, de, yi, gn, gf, k, sn, sa, sh, ss⟩, gv, rfl, ⟨h0, h1⟩, h2⟩
end
/-- a world for the witness: the settled one, the two tables holding what their initialisers lay -/
noncomputable def laidWorld (os : Os) : World :=
  let w0 := World.holding Tryz.prog os ⟨#[], #[], []⟩
  let put (h : Array Obj) (g : Nat) (cs : Array Value) : Array Obj := h.modify g fun
    | .cells _ t frozen => .cells cs t frozen
    | o => o
  let h1 := put w0.heap 1 (Pinned.utf8FirstZ.map fun (z : Nat) => Value.int .u8 (z : Int)).toArray
  let h2 := put h1 2 #[.int .u8 128, .int .u8 191, .int .u8 160, .int .u8 191, .int .u8 128, .int .u8 159, .int .u8 144, .int .u8 191, .int .u8 128, .int .u8 143, .int .u8 0, .int .u8 0, .int .u8 0, .int .u8 0, .int .u8 0, .int .u8 0, .int .u8 0, .int .u8 0, .int .u8 0, .int .u8 0, .int .u8 0, .int .u8 0, .int .u8 0, .int .u8 0, .int .u8 0, .int .u8 0, .int .u8 0, .int .u8 0, .int .u8 0, .int .u8 0, .int .u8 0, .int .u8 0]
  { w0 with heap := h2 }
end Go.Proofs.YtiddpaaihloopaaGreatDoor
