/-
  The arguments of chapter 45 opened; a world for the witness. Conditions: as stated. By an AI agent.
-/
import Derived.Test.YtpkgadjglidnaaaDoorCabN
import Derived.Test.YtpkgadjglidnaaaDoorLeaf
import Derived.Test.YtpkgadjglidnaaaDoorCards
import Derived.Test.YtpkgadjglidnaaaDoorTie
namespace Go.Proofs.YtpkgadjglidnaaaDoor
open Go Go.ChangeShapes Go.WideShapes Go.RowKit Go.ChangeAt
set_option linter.unusedVariables false
set_option linter.unusedSimpArgs false
instance tr_inh : Inhabited Tr := ⟨⟨0, 0, 0, 0⟩⟩
instance cb_inh : Inhabited Cb := ⟨⟨⟨#[]⟩, 0, 0, 0⟩⟩
/-- bytes in memory -/
def BytesAt (w : World) (v : Value) (n : Nat) (f : Nat → Int) : Prop := SliceAt w v n 1 (fun i _ => .int .u8 (f i)) ∧ ∀ i, i < n → 0 ≤ f i ∧ f i ≤ 255
section
variable {H : Type} {enc : TypeId × Value → H} {W : World}
theorem trays_leaf {fuel : Nat} {v : Value} {x : DataW H × List MemPlace} (h : DataW.trod enc Tryd.prog W 0 (fun _ => true) true fuel 22 [v] = some x) : ∃ n g, TraysAt W v n g := by
  rcases leaf_slice (sz := 4) (e := 28) (by kernel_rfl) (by kernel_rfl) h with rfl | ⟨a, len, cap, rfl, hl, hm, hi⟩
  · exact ⟨0, fun _ => ⟨0, 0, 0, 0⟩, none, 0, rfl, by omega, by omega, fun h => by omega⟩
  · obtain ⟨g, hg⟩ := pick_each (α := Tr) (n := len) (p := fun i p => W.cell? (a.add (i * 4 + 0)) = some (.int .i64 p.A) ∧ W.cell? (a.add (i * 4 + 1)) = some (.int .i64 p.B) ∧ W.cell? (a.add (i * 4 + 2)) = some (.int .i64 p.L) ∧ W.cell? (a.add (i * 4 + 3)) = some (.int .i64 p.S)) (fun i hil => by
      obtain ⟨c0, h0, t0⟩ := hi i hil 0 (by omega)
      obtain ⟨c1, h1, t1⟩ := hi i hil 1 (by omega)
      obtain ⟨c2, h2, t2⟩ := hi i hil 2 (by omega)
      obtain ⟨c3, h3, t3⟩ := hi i hil 3 (by omega)
      obtain ⟨_, _, t0⟩ := t0 8 3 (by kernel_rfl)
      obtain ⟨_, _, t1⟩ := t1 8 3 (by kernel_rfl)
      obtain ⟨_, _, t2⟩ := t2 8 3 (by kernel_rfl)
      obtain ⟨_, _, t3⟩ := t3 8 3 (by kernel_rfl)
      obtain ⟨s0, rfl, hs0⟩ := leaf_i64 Tryd.underlying3 t0
      obtain ⟨s1, rfl, hs1⟩ := leaf_i64 Tryd.underlying3 t1
      obtain ⟨s2, rfl, hs2⟩ := leaf_i64 Tryd.underlying3 t2
      obtain ⟨s3, rfl, hs3⟩ := leaf_i64 Tryd.underlying3 t3
      exact ⟨⟨s0, s1, s2, s3⟩, h0, h1, h2, h3⟩)
    refine ⟨len, g, sliceAt_of _ hl hm (by decide) fun i hil j hj => ?_⟩
    rcases (by omega : j = 0 ∨ j = 1 ∨ j = 2 ∨ j = 3) with rfl | rfl | rfl | rfl
    · exact (hg i hil).1
    · exact (hg i hil).2.1
    · exact (hg i hil).2.2.1
    · exact (hg i hil).2.2.2
theorem cabs_leaf {fuel : Nat} {v : Value} {x : DataW H × List MemPlace} (h : DataW.trod enc Tryd.prog W 0 (fun _ => true) true fuel 23 [v] = some x) : ∃ n g, CabsAt W v n g := by
  rcases leaf_slice (sz := 4) (e := 34) (by kernel_rfl) (by kernel_rfl) h with rfl | ⟨a, len, cap, rfl, hl, hm, hi⟩
  · exact ⟨0, fun _ => ⟨⟨#[]⟩, 0, 0, 0⟩, none, 0, rfl, by omega, by omega, fun h => by omega⟩
  · obtain ⟨g, hg⟩ := pick_each (α := Cb) (n := len) (p := fun i p => W.cell? (a.add (i * 4 + 0)) = some (.string p.id) ∧ W.cell? (a.add (i * 4 + 1)) = some (.int .i64 p.fr) ∧ W.cell? (a.add (i * 4 + 2)) = some (.int .i64 p.to) ∧ W.cell? (a.add (i * 4 + 3)) = some (.int .i64 p.sz)) (fun i hil => by
      obtain ⟨c0, h0, t0⟩ := hi i hil 0 (by omega)
      obtain ⟨c1, h1, t1⟩ := hi i hil 1 (by omega)
      obtain ⟨c2, h2, t2⟩ := hi i hil 2 (by omega)
      obtain ⟨c3, h3, t3⟩ := hi i hil 3 (by omega)
      obtain ⟨_, _, t0⟩ := t0 8 9 (by kernel_rfl)
      obtain ⟨_, _, t1⟩ := t1 8 3 (by kernel_rfl)
      obtain ⟨_, _, t2⟩ := t2 8 3 (by kernel_rfl)
      obtain ⟨_, _, t3⟩ := t3 8 3 (by kernel_rfl)
      obtain ⟨s0, rfl, hs0⟩ := leaf_string Tryd.underlying9 t0
      obtain ⟨s1, rfl, hs1⟩ := leaf_i64 Tryd.underlying3 t1
      obtain ⟨s2, rfl, hs2⟩ := leaf_i64 Tryd.underlying3 t2
      obtain ⟨s3, rfl, hs3⟩ := leaf_i64 Tryd.underlying3 t3
      exact ⟨⟨s0, s1, s2, s3⟩, h0, h1, h2, h3⟩)
    refine ⟨len, g, sliceAt_of _ hl hm (by decide) fun i hil j hj => ?_⟩
    rcases (by omega : j = 0 ∨ j = 1 ∨ j = 2 ∨ j = 3) with rfl | rfl | rfl | rfl
    · exact (hg i hil).1
    · exact (hg i hil).2.1
    · exact (hg i hil).2.2.1
    · exact (hg i hil).2.2.2
theorem ints_leaf {fuel : Nat} {v : Value} {x : DataW H × List MemPlace} (h : DataW.trod enc Tryd.prog W 0 (fun _ => true) true fuel 32 [v] = some x) : ∃ n g, IntsAt W v n g := by
  rcases leaf_slice (sz := 1) (e := 3) (by kernel_rfl) (by kernel_rfl) h with rfl | ⟨a, len, cap, rfl, hl, hm, hi⟩
  · exact ⟨0, fun _ => 0, none, 0, rfl, by omega, by omega, fun h => by omega⟩
  · obtain ⟨g, hg⟩ := pick_each (α := Int) (n := len) (p := fun i p => W.cell? (a.add (i * 1 + 0)) = some (.int .i64 p)) (fun i hil => by
      obtain ⟨c0, h0, t0⟩ := hi i hil 0 (by omega)
      obtain ⟨_, _, t0⟩ := t0 8 3 (by kernel_rfl)
      obtain ⟨s0, rfl, hs0⟩ := leaf_i64 Tryd.underlying3 t0
      exact ⟨s0, h0⟩)
    refine ⟨len, g, sliceAt_of _ hl hm (by decide) fun i hil j hj => ?_⟩
    obtain rfl : j = 0 := by omega
    exact hg i hil
theorem paths_leaf {fuel : Nat} {v : Value} {x : DataW H × List MemPlace} (h : DataW.trod enc Tryd.prog W 0 (fun _ => true) true fuel 39 [v] = some x) : ∃ n L g, IPathsAt W v n L g := by
  rcases leaf_slice (sz := 1) (e := 32) (by kernel_rfl) (by kernel_rfl) h with rfl | ⟨a, len, cap, rfl, hl, hm, hi⟩
  · exact ⟨0, fun _ => 0, fun _ _ => 0, fun _ => .slice none 0 0, ⟨none, 0, rfl, by omega, by omega, fun h => by omega⟩, fun k hk => by omega⟩
  · obtain ⟨g, hg⟩ := pick_each (α := Value × Nat × (Nat → Int)) (n := len) (p := fun i p => W.cell? (a.add (i * 1 + 0)) = some p.1 ∧ IntsAt W p.1 p.2.1 p.2.2) (fun i hil => by
      obtain ⟨c0, h0, t0⟩ := hi i hil 0 (by omega)
      obtain ⟨_, _, t0⟩ := t0 8 32 (by kernel_rfl)
      obtain ⟨n, f, hf⟩ := ints_leaf t0
      exact ⟨(c0, n, f), h0, hf⟩)
    refine ⟨len, fun i => (g i).2.1, fun i => (g i).2.2, fun i => (g i).1, sliceAt_of _ hl hm (by decide) fun i hil j hj => ?_, fun k hk => (hg k hk).2⟩
    obtain rfl : j = 0 := by omega
    exact (hg i hil).1
theorem bytes_leaf {fuel : Nat} {v : Value} {x : DataW H × List MemPlace} (h : DataW.trod enc Tryd.prog W 0 (fun _ => true) true fuel 49 [v] = some x) : ∃ n g, BytesAt W v n g := by
  rcases leaf_slice (sz := 1) (e := 5) (by kernel_rfl) (by kernel_rfl) h with rfl | ⟨a, len, cap, rfl, hl, hm, hi⟩
  · exact ⟨0, fun _ => 0, ⟨none, 0, rfl, by omega, by omega, fun h => by omega⟩, fun i hi => by omega⟩
  · obtain ⟨g, hg⟩ := pick_each (α := Int) (n := len) (p := fun i p => W.cell? (a.add (i * 1 + 0)) = some (.int .u8 p) ∧ 0 ≤ p ∧ p ≤ 255) (fun i hil => by
      obtain ⟨c0, h0, t0⟩ := hi i hil 0 (by omega)
      obtain ⟨_, _, t0⟩ := t0 8 5 (by kernel_rfl)
      obtain ⟨s0, rfl, hs0⟩ := leaf_int Tryd.underlying5 t0
      exact ⟨s0, h0, by simpa [Lit.wf, IntKind.min, IntKind.max, IntKind.signed, IntKind.bits] using hs0⟩)
    refine ⟨len, g, sliceAt_of _ hl hm (by decide) fun i hil j hj => ?_, fun i hi => (hg i hi).2⟩
    obtain rfl : j = 0 := by omega
    exact (hg i hil).1
set_option maxRecDepth 100000 in
theorem trays_arg {base : Nat} {r : Reach} {v : Value} {d : DataW H} {ps : List MemPlace} (hv : Value.okWide Tryd.prog W r base 22 v) (h : DataW.Trod enc Tryd.prog W 0 (fun _ => true) true 22 v d ps) : ∃ n g, TraysAt W v n g := by
  obtain ⟨fuel, hf⟩ := leaf_trod (show Tryd.prog.underlying 22 = some (.slice 28) by kernel_rfl) hv h
  exact trays_leaf hf
set_option maxRecDepth 100000 in
theorem cabs_arg {base : Nat} {r : Reach} {v : Value} {d : DataW H} {ps : List MemPlace} (hv : Value.okWide Tryd.prog W r base 23 v) (h : DataW.Trod enc Tryd.prog W 0 (fun _ => true) true 23 v d ps) : ∃ n g, CabsAt W v n g := by
  obtain ⟨fuel, hf⟩ := leaf_trod (show Tryd.prog.underlying 23 = some (.slice 34) by kernel_rfl) hv h
  exact cabs_leaf hf
set_option maxRecDepth 100000 in
theorem ints_arg {base : Nat} {r : Reach} {v : Value} {d : DataW H} {ps : List MemPlace} (hv : Value.okWide Tryd.prog W r base 32 v) (h : DataW.Trod enc Tryd.prog W 0 (fun _ => true) true 32 v d ps) : ∃ n g, IntsAt W v n g := by
  obtain ⟨fuel, hf⟩ := leaf_trod (show Tryd.prog.underlying 32 = some (.slice 3) by kernel_rfl) hv h
  exact ints_leaf hf
set_option maxRecDepth 100000 in
theorem paths_arg {base : Nat} {r : Reach} {v : Value} {d : DataW H} {ps : List MemPlace} (hv : Value.okWide Tryd.prog W r base 39 v) (h : DataW.Trod enc Tryd.prog W 0 (fun _ => true) true 39 v d ps) : ∃ n L g, IPathsAt W v n L g := by
  obtain ⟨fuel, hf⟩ := leaf_trod (show Tryd.prog.underlying 39 = some (.slice 32) by kernel_rfl) hv h
  exact paths_leaf hf
set_option maxRecDepth 100000 in
theorem bytes_arg {base : Nat} {r : Reach} {v : Value} {d : DataW H} {ps : List MemPlace} (hv : Value.okWide Tryd.prog W r base 49 v) (h : DataW.Trod enc Tryd.prog W 0 (fun _ => true) true 49 v d ps) : ∃ n g, BytesAt W v n g := by
  obtain ⟨fuel, hf⟩ := leaf_trod (show Tryd.prog.underlying 49 = some (.slice 5) by kernel_rfl) hv h
  exact bytes_leaf hf
set_option maxRecDepth 100000 in
theorem cable_arg {base : Nat} {r : Reach} {v : Value} {d : DataW H} {ps : List MemPlace} (hv : Value.okWide Tryd.prog W r base 34 v) (h : DataW.Trod enc Tryd.prog W 0 (fun _ => true) true 34 v d ps) :
    ∃ s x y z, v = .agg #[.string s, .int .i64 x, .int .i64 y, .int .i64 z] := by
  obtain ⟨cs, rfl, hl, hc⟩ := leaf_struct (fs := Tryd.prog.fieldsOf 34) (k := 4) (by kernel_rfl) (by kernel_rfl) hv h
  match cs, hl with
  | [c0, c1, c2, c3], _ =>
    obtain ⟨_, _, t0⟩ := hc 0 c0 rfl 8 9 (by kernel_rfl)
    obtain ⟨_, _, t1⟩ := hc 1 c1 rfl 8 3 (by kernel_rfl)
    obtain ⟨_, _, t2⟩ := hc 2 c2 rfl 8 3 (by kernel_rfl)
    obtain ⟨_, _, t3⟩ := hc 3 c3 rfl 8 3 (by kernel_rfl)
    obtain ⟨s, rfl, hs⟩ := leaf_string Tryd.underlying9 t0
    obtain ⟨z1, rfl, _⟩ := leaf_i64 Tryd.underlying3 t1
    obtain ⟨z2, rfl, _⟩ := leaf_i64 Tryd.underlying3 t2
    obtain ⟨z3, rfl, _⟩ := leaf_i64 Tryd.underlying3 t3
    exact ⟨s, z1, z2, z3, rfl⟩
end
/-- a world for the witness: the settled one, the two tables holding what their initialisers lay -/
noncomputable def laidWorld (os : Os) : World :=
  let w0 := World.holding Tryd.prog os ⟨#[], #[], []⟩
  let put (h : Array Obj) (g : Nat) (cs : Array Value) : Array Obj := h.modify g fun
    | .cells _ t frozen => .cells cs t frozen
    | o => o
  let h1 := put w0.heap 1 (Pinned.utf8FirstZ.map fun (z : Nat) => Value.int .u8 (z : Int)).toArray
  let h2 := put h1 2 #[.int .u8 128, .int .u8 191, .int .u8 160, .int .u8 191, .int .u8 128, .int .u8 159, .int .u8 144, .int .u8 191, .int .u8 128, .int .u8 143, .int .u8 0, .int .u8 0, .int .u8 0, .int .u8 0, .int .u8 0, .int .u8 0, .int .u8 0, .int .u8 0, .int .u8 0, .int .u8 0, .int .u8 0, .int .u8 0, .int .u8 0, .int .u8 0, .int .u8 0, .int .u8 0, .int .u8 0, .int .u8 0, .int .u8 0, .int .u8 0, .int .u8 0, .int .u8 0]
  { w0 with heap := h2 }
end Go.Proofs.YtpkgadjglidnaaaDoor
