/-
  The arguments opened, and a world for the witness. Conditions: none. By an AI agent.
-/
import Derived.Test.YtgbhhjdmochhpaaGreatDoorBulk
import Derived.Test.YtgbhhjdmochhpaaGreatDoorSpoB
import Derived.Test.YtgbhhjdmochhpaaGreatDoorLeaf
import Derived.Test.YtgbhhjdmochhpaaGreatDoorCards
import Derived.Test.YtgbhhjdmochhpaaGreatDoorTie
namespace Go.Proofs.YtgbhhjdmochhpaaGreatDoor
open Go Go.ChangeShapes Go.WideShapes Go.RowKit Go.ChangeAt
set_option linter.unusedSimpArgs false
set_option linter.unusedVariables false
instance : Inhabited Sh := ⟨Sh.none⟩
instance : Inhabited Br := ⟨Br.none⟩
section
variable {H : Type} {enc : TypeId × Value → H} {W : World}
theorem ints_leaf {fuel : Nat} {v : Value} {x : DataW H × List MemPlace} (h : DataW.trod enc Tryz.prog W 0 (fun _ => true) true fuel 29 [v] = some x) : ∃ n f, IntsAt W v n f := by
  rcases leaf_slice (sz := 1) (e := 3) (by kernel_rfl) (by kernel_rfl) h with rfl | ⟨a, len, cap, rfl, hl, hm, hi⟩
  · exact ⟨0, fun _ => 0, intsAt_nil _ _⟩
  · obtain ⟨g, hg⟩ := pick_each (α := Int) (n := len) (p := fun i p => W.cell? (a.add (i * 1 + 0)) = some (.int .i64 p)) (fun i hil => by
      obtain ⟨c0, h0, t0⟩ := hi i hil 0 (by omega)
      obtain ⟨_, _, t0⟩ := t0 8 3 (by kernel_rfl)
      obtain ⟨z0, rfl, _⟩ := leaf_i64 Tryz.underlying3 t0
      exact ⟨z0, h0⟩)
    refine ⟨len, g, sliceAt_of _ hl hm (by decide) fun i hil j hj => ?_⟩
    obtain rfl : j = 0 := by omega
    exact hg i hil
theorem grades_leaf {fuel : Nat} {v : Value} {x : DataW H × List MemPlace} (h : DataW.trod enc Tryz.prog W 0 (fun _ => true) true fuel 23 [v] = some x) :
    ∃ (n : Nat) (nm : Nat → ByteArray) (de yi : Nat → Int) (gv : Nat → Value) (gn : Nat → Nat) (gf : Nat → Nat → Int), SliceAt W v n 4 (fun i j => match j with | 0 => .string (nm i) | 1 => .int .i64 (de i) | 2 => .int .i64 (yi i) | _ => gv i) ∧ ∀ i, i < n → IntsAt W (gv i) (gn i) (gf i) := by
  rcases leaf_slice (sz := 4) (e := 31) (by kernel_rfl) (by kernel_rfl) h with rfl | ⟨a, len, cap, rfl, hl, hm, hi⟩
  · exact ⟨0, fun _ => ⟨#[]⟩, fun _ => 0, fun _ => 0, fun _ => .slice none 0 0, fun _ => 0, fun _ _ => 0, ⟨none, 0, rfl, by omega, by omega, fun h => by omega⟩, fun i hi => by omega⟩
  · obtain ⟨g, hg⟩ := pick_each (α := ByteArray × Int × Int × Value × Nat × (Nat → Int)) (n := len) (p := fun i p => W.cell? (a.add (i * 4 + 0)) = some (.string p.1) ∧ W.cell? (a.add (i * 4 + 1)) = some (.int .i64 p.2.1) ∧ W.cell? (a.add (i * 4 + 2)) = some (.int .i64 p.2.2.1) ∧ W.cell? (a.add (i * 4 + 3)) = some p.2.2.2.1 ∧ IntsAt W p.2.2.2.1 p.2.2.2.2.1 p.2.2.2.2.2) (fun i hil => by
      obtain ⟨c0, h0, t0⟩ := hi i hil 0 (by omega)
      obtain ⟨c1, h1, t1⟩ := hi i hil 1 (by omega)
      obtain ⟨c2, h2, t2⟩ := hi i hil 2 (by omega)
      obtain ⟨c3, h3, t3⟩ := hi i hil 3 (by omega)
      obtain ⟨_, _, t0⟩ := t0 8 9 (by kernel_rfl)
      obtain ⟨_, _, t1⟩ := t1 8 3 (by kernel_rfl)
      obtain ⟨_, _, t2⟩ := t2 8 3 (by kernel_rfl)
      obtain ⟨_, _, t3⟩ := t3 8 29 (by kernel_rfl)
      obtain ⟨z0, rfl, _⟩ := leaf_string Tryz.underlying9 t0
      obtain ⟨z1, rfl, _⟩ := leaf_i64 Tryz.underlying3 t1
      obtain ⟨z2, rfl, _⟩ := leaf_i64 Tryz.underlying3 t2
      obtain ⟨n, f, hp⟩ := ints_leaf t3
      exact ⟨(z0, z1, z2, c3, n, f), h0, h1, h2, h3, hp⟩)
    refine ⟨len, fun i => (g i).1, fun i => (g i).2.1, fun i => (g i).2.2.1, fun i => (g i).2.2.2.1, fun i => (g i).2.2.2.2.1, fun i => (g i).2.2.2.2.2, sliceAt_of _ hl hm (by decide) fun i hil j hj => ?_, fun i hil => (hg i hil).2.2.2.2⟩
    rcases (by omega : j = 0 ∨ j = 1 ∨ j = 2 ∨ j = 3) with rfl | rfl | rfl | rfl
    · exact (hg i hil).1
    · exact (hg i hil).2.1
    · exact (hg i hil).2.2.1
    · exact (hg i hil).2.2.2.1
theorem sections_leaf {fuel : Nat} {v : Value} {x : DataW H × List MemPlace} (h : DataW.trod enc Tryz.prog W 0 (fun _ => true) true fuel 24 [v] = some x) :
    ∃ (n : Nat) (sn : Nat → ByteArray) (sa sh ss : Nat → Int), SliceAt W v n 4 (fun i j => match j with | 0 => .string (sn i) | 1 => .int .i64 (sa i) | 2 => .int .i64 (sh i) | _ => .int .i64 (ss i)) := by
  rcases leaf_slice (sz := 4) (e := 33) (by kernel_rfl) (by kernel_rfl) h with rfl | ⟨a, len, cap, rfl, hl, hm, hi⟩
  · exact ⟨0, fun _ => ⟨#[]⟩, fun _ => 0, fun _ => 0, fun _ => 0, ⟨none, 0, rfl, by omega, by omega, fun h => by omega⟩⟩
  · obtain ⟨g, hg⟩ := pick_each (α := ByteArray × Int × Int × Int) (n := len) (p := fun i p => W.cell? (a.add (i * 4 + 0)) = some (.string p.1) ∧ W.cell? (a.add (i * 4 + 1)) = some (.int .i64 p.2.1) ∧ W.cell? (a.add (i * 4 + 2)) = some (.int .i64 p.2.2.1) ∧ W.cell? (a.add (i * 4 + 3)) = some (.int .i64 p.2.2.2)) (fun i hil => by
      obtain ⟨c0, h0, t0⟩ := hi i hil 0 (by omega)
      obtain ⟨c1, h1, t1⟩ := hi i hil 1 (by omega)
      obtain ⟨c2, h2, t2⟩ := hi i hil 2 (by omega)
      obtain ⟨c3, h3, t3⟩ := hi i hil 3 (by omega)
      obtain ⟨_, _, t0⟩ := t0 8 9 (by kernel_rfl)
      obtain ⟨_, _, t1⟩ := t1 8 3 (by kernel_rfl)
      obtain ⟨_, _, t2⟩ := t2 8 3 (by kernel_rfl)
      obtain ⟨_, _, t3⟩ := t3 8 3 (by kernel_rfl)
      obtain ⟨z0, rfl, _⟩ := leaf_string Tryz.underlying9 t0
      obtain ⟨z1, rfl, _⟩ := leaf_i64 Tryz.underlying3 t1
      obtain ⟨z2, rfl, _⟩ := leaf_i64 Tryz.underlying3 t2
      obtain ⟨z3, rfl, _⟩ := leaf_i64 Tryz.underlying3 t3
      exact ⟨(z0, z1, z2, z3), h0, h1, h2, h3⟩)
    refine ⟨len, fun i => (g i).1, fun i => (g i).2.1, fun i => (g i).2.2.1, fun i => (g i).2.2.2, sliceAt_of _ hl hm (by decide) fun i hil j hj => ?_⟩
    rcases (by omega : j = 0 ∨ j = 1 ∨ j = 2 ∨ j = 3) with rfl | rfl | rfl | rfl
    · exact (hg i hil).1
    · exact (hg i hil).2.1
    · exact (hg i hil).2.2.1
    · exact (hg i hil).2.2.2
set_option maxRecDepth 100000 in
theorem mat_arg {base : Nat} {r : Reach} {v : Value} {d : DataW H} {ps : List MemPlace} (hv : Value.okWide Tryz.prog W r base 26 v) (h : DataW.Trod enc Tryz.prog W 0 (fun _ => true) true 26 v d ps) : ∃ vg vs m gv, v = .agg #[vg, vs] ∧ GrAt W vg m gv ∧ SeAt W vs m := by
  obtain ⟨cs, rfl, hl, hc⟩ := leaf_struct (fs := Tryz.prog.fieldsOf 26) (k := 2) (by kernel_rfl) (by kernel_rfl) hv h
  match cs, hl with
  | [c0, c1], _ =>
    obtain ⟨_, _, t0⟩ := hc 0 c0 rfl 8 23 (by kernel_rfl)
    obtain ⟨_, _, t1⟩ := hc 1 c1 rfl 8 24 (by kernel_rfl)
    obtain ⟨n, nm, de, yi, gv, gn, gf, h0, h1⟩ := grades_leaf t0
    obtain ⟨k, sn, sa, sh, ss, h2⟩ := sections_leaf t1
    exact ⟨c0, c1, ⟨n, nm, de, yi, gn, gf, k, sn, sa, sh, ss⟩, gv, rfl, ⟨h0, h1⟩, h2⟩
theorem vecs_leaf {fuel : Nat} {v : Value} {x : DataW H × List MemPlace} (h : DataW.trod enc Tryz.prog W 0 (fun _ => true) true fuel 22 [v] = some x) : ∃ n x y z, VecsAt W v n x y z := by
  rcases leaf_slice (sz := 3) (e := 39) (by kernel_rfl) (by kernel_rfl) h with rfl | ⟨a, len, cap, rfl, hl, hm, hi⟩
  · exact ⟨0, fun _ => 0, fun _ => 0, fun _ => 0, none, 0, rfl, by omega, by omega, fun h => by omega⟩
  · obtain ⟨g, hg⟩ := pick_each (α := Int × Int × Int) (n := len) (p := fun i p => W.cell? (a.add (i * 3 + 0)) = some (.int .i64 p.1) ∧ W.cell? (a.add (i * 3 + 1)) = some (.int .i64 p.2.1) ∧ W.cell? (a.add (i * 3 + 2)) = some (.int .i64 p.2.2)) (fun i hil => by
      obtain ⟨c0, h0, t0⟩ := hi i hil 0 (by omega)
      obtain ⟨c1, h1, t1⟩ := hi i hil 1 (by omega)
      obtain ⟨c2, h2, t2⟩ := hi i hil 2 (by omega)
      obtain ⟨_, _, t0⟩ := t0 8 3 (by kernel_rfl)
      obtain ⟨_, _, t1⟩ := t1 8 3 (by kernel_rfl)
      obtain ⟨_, _, t2⟩ := t2 8 3 (by kernel_rfl)
      obtain ⟨z0, rfl, _⟩ := leaf_i64 Tryz.underlying3 t0
      obtain ⟨z1, rfl, _⟩ := leaf_i64 Tryz.underlying3 t1
      obtain ⟨z2, rfl, _⟩ := leaf_i64 Tryz.underlying3 t2
      exact ⟨(z0, z1, z2), h0, h1, h2⟩)
    refine ⟨len, fun i => (g i).1, fun i => (g i).2.1, fun i => (g i).2.2, sliceAt_of _ hl hm (by decide) fun i hil j hj => ?_⟩
    rcases (by omega : j = 0 ∨ j = 1 ∨ j = 2) with rfl | rfl | rfl
    · exact (hg i hil).1
    · exact (hg i hil).2.1
    · exact (hg i hil).2.2
set_option maxRecDepth 100000 in
theorem vecs_arg {base : Nat} {r : Reach} {v : Value} {d : DataW H} {ps : List MemPlace} (hv : Value.okWide Tryz.prog W r base 22 v) (h : DataW.Trod enc Tryz.prog W 0 (fun _ => true) true 22 v d ps) : ∃ n x y z, VecsAt W v n x y z := by
  obtain ⟨fuel, hf⟩ := leaf_trod (show Tryz.prog.underlying 22 = some (.slice 39) by kernel_rfl) hv h
  exact vecs_leaf hf
set_option maxRecDepth 100000 in
theorem mat_upto {base : Nat} {r : Reach} {v : Value} {d : DataW H} {ps : List MemPlace} (hv : Value.okWide Tryz.prog W r base 26 v) (h : DataW.Trod enc Tryz.prog W 0 (fun _ => true) true 26 v d ps) : ∃ (m : Mat) (gv : Nat → Value), Rows.uptoBulk d ≤ 1048576 → MatAt W v m gv := by
  obtain ⟨vg, vs, m, gv, rfl, hG, hS⟩ := mat_arg hv h
  have hG' := hG
  obtain ⟨⟨oa, ca, rfl, h1, h2, h3⟩, h4⟩ := hG
  obtain ⟨ob, cb, rfl, -, -⟩ := hS.form
  obtain ⟨b1, b2, b3⟩ := mat_bulk h
  refine ⟨m, gv, fun hk => ⟨_, _, rfl, hG', hS, by omega, by omega, fun i hi => ?_⟩⟩
  obtain ⟨b, off, rfl, hlt, hc⟩ := h3 (by omega)
  obtain ⟨oi, ci, he, -, -⟩ := (h4 i hi).form
  have e3 := hc i 3 hi (by decide)
  have e4 : W.cell? ((⟨b, off, none⟩ : Addr).add (i * 4 + 3)) = some (.slice oi (m.gn i) ci) := by
    have hadd : (⟨b, off, none⟩ : Addr).add (i * 4 + 3) = ⟨b, off + (i * 4 + 3), none⟩ := by unfold Addr.add; split <;> simp_all
    rw [hadd]
    have e5 : W.cell? ⟨b, off + (i * 4 + 3), none⟩ = some (gv i) := by first | exact e3 | simpa [Nat.add_assoc] using e3
    rw [e5, he]
  have := b3 _ rfl i hi oi _ ci e4
  omega
end
/-- a world for the witness: the settled one, the two tables holding what their initialisers lay -/
noncomputable def laidWorld (os : Os) : World :=
  let w0 := World.holding Tryz.prog os ⟨#[], #[], []⟩
  let put (h : Array Obj) (g : Nat) (cs : Array Value) : Array Obj := h.modify g fun
    | .cells _ t frozen => .cells cs t frozen
    | o => o
  let h1 := put w0.heap 1 (Pinned.utf8FirstZ.map fun (z : Nat) => Value.int .u8 (z : Int)).toArray
  let h2 := put h1 2 #[.int .u8 128, .int .u8 191, .int .u8 160, .int .u8 191, .int .u8 128, .int .u8 159, .int .u8 144, .int .u8 191, .int .u8 128, .int .u8 143, .int .u8 0, .int .u8 0, .int .u8 0, .int .u8 0, .int .u8 0, .int .u8 0, .int .u8 0, .int .u8 0, .int .u8 0, .int .u8 0, .int .u8 0, .int .u8 0, .int .u8 0, .int .u8 0, .int .u8 0, .int .u8 0, .int .u8 0, .int .u8 0, .int .u8 0, .int .u8 0, .int .u8 0, .int .u8 0]
  { w0 with heap := h2 }

/-- what is known of a spool that can be bent -/
theorem leg_pos {x y z : Nat → Int} {i : Nat} (h : badB x y z i = false) : 1 ≤ legV x y z i := by
  unfold badB axI at h
  have h1 : axisF (x (i + 1) - x i) (y (i + 1) - y i) (z (i + 1) - z i) ≠ 0 := fun e => by rw [e] at h; simp at h
  have mp : ∀ d : Int, 0 ≤ mx d (-d) ∧ (d ≠ 0 → 1 ≤ mx d (-d)) := fun d => by unfold mx; split <;> omega
  have a := mp (x (i + 1) - x i)
  have b := mp (y (i + 1) - y i)
  have c := mp (z (i + 1) - z i)
  have hne : x (i + 1) - x i ≠ 0 ∨ y (i + 1) - y i ≠ 0 ∨ z (i + 1) - z i ≠ 0 := by
    apply Classical.byContradiction
    intro hn
    have e1 : x (i + 1) - x i = 0 := by omega
    have e2 : y (i + 1) - y i = 0 := by omega
    have e3 : z (i + 1) - z i = 0 := by omega
    rw [e1, e2, e3] at h1
    exact h1 (by decide)
  unfold legV
  rcases hne with h | h | h
  · have := a.2 h; omega
  · have := b.2 h; omega
  · have := c.2 h; omega
theorem spool_facts {n : Nat} {x y z : Nat → Int} {r : Int} (h : checkF n x y z r = 0) : 1 ≤ lengthF n x y z r ∧ validF (x 0, y 0, z 0) (turnOf (dirV x y z)) = true := by
  obtain ⟨h1, h2, h3, h4, h5, h6, h7⟩ := check_zero h
  have hbad : ∀ i, i < n - 1 → badB x y z i = false := fun i hi => by have := allTo_iff.1 h6 i hi; simpa using this
  have hsh : ∀ i, i < n - 1 → r * bendsI n i ≤ legV x y z i := fun i hi => by
    have := allTo_iff.1 h7 i hi
    unfold shortB at this
    have h8 : ¬ legV x y z i < r * bendsI n i := by simpa using this
    omega
  constructor
  · unfold lengthF
    rw [if_pos h]
    by_cases hn : n = 2
    · subst hn
      have := leg_pos (hbad 0 (by decide))
      have e : mx (((2 : Nat) : Int) - 2) 0 = 0 := by decide
      rw [e, Int.zero_mul]
      show 1 ≤ (0 + legV x y z 0) + 0
      omega
    · have key : ∀ k, 1 ≤ k → k ≤ n - 2 → r * (2 * (k : Int) - 1) ≤ sumTo (legV x y z) k := by
        intro k
        induction k with
        | zero => intro h0; omega
        | succ k ih =>
          intro _ hk
          have hl := hsh k (by omega)
          show _ ≤ sumTo (legV x y z) k + legV x y z k
          by_cases h0 : k = 0
          · subst h0
            have e : bendsI n 0 = 1 := by unfold bendsI; rw [if_neg (by omega), if_pos (by omega)]; rfl
            rw [e] at hl
            show r * (2 * ((0 + 1 : Nat) : Int) - 1) ≤ 0 + legV x y z 0
            have : (2 * ((0 + 1 : Nat) : Int) - 1) = 1 := by decide
            rw [this]
            omega
          · have e : bendsI n k = 2 := by unfold bendsI; rw [if_pos (by omega), if_pos (by omega)]; rfl
            rw [e] at hl
            have := ih (by omega) (by omega)
            have e2 : r * (2 * ((k + 1 : Nat) : Int) - 1) = r * (2 * (k : Int) - 1) + r * 2 := by rw [← Int.mul_add]; congr 1; omega
            omega
      obtain ⟨q, rfl⟩ : ∃ q, n = q + 3 := ⟨n - 3, by omega⟩
      have hk := key (q + 1) (by omega) (by omega)
      have hl := hsh (q + 1) (by omega)
      have e : bendsI (q + 3) (q + 1) = 1 := by unfold bendsI; rw [if_pos (by omega), if_neg (by omega)]; rfl
      rw [e] at hl
      have e1 : q + 3 - 1 = (q + 1) + 1 := by omega
      rw [e1]
      have em : mx (((q + 3 : Nat) : Int) - 2) 0 = (q : Int) + 1 := by unfold mx; split <;> omega
      rw [em]
      show 1 ≤ (sumTo (legV x y z) (q + 1) + legV x y z (q + 1)) + ((q : Int) + 1) * (arcF r - 2 * r)
      have harc : 1 ≤ arcF r := by unfold arcF; omega
      have e3 : ((q : Int) + 1) * (arcF r - 2 * r) = ((q : Int) + 1) * arcF r - 2 * (((q : Int) + 1) * r) := by grind
      have e4 : r * (2 * ((q + 1 : Nat) : Int) - 1) = 2 * (((q : Int) + 1) * r) - r := by
        have : ((q + 1 : Nat) : Int) = (q : Int) + 1 := by omega
        rw [this]; grind
      have hp := Int.mul_le_mul_of_nonneg_left harc (show 0 ≤ (q : Int) + 1 by omega)
      rw [e4] at hk
      rw [e3]
      omega
  · have hax : isAxis (x 1 - x 0) (y 1 - y 0) (z 1 - z 0) = true := by
      have hb := hbad 0 (by omega)
      unfold badB axI at hb
      rw [isAxis_iff]
      cases e : (axisF (x 1 - x 0) (y 1 - y 0) (z 1 - z 0) == 0) with
      | false => rfl
      | true => rw [show axisF (x (0 + 1) - x 0) (y (0 + 1) - y 0) (z (0 + 1) - z 0) = axisF (x 1 - x 0) (y 1 - y 0) (z 1 - z 0) from rfl, e] at hb; simp at hb
    have htt := turn_at (unit_of hax)
    have hin : In3 (x 0) (y 0) (z 0) := of_decide_eq_true (allTo_iff.1 h3 0 (by omega))
    unfold validF
    rw [decide_eq_true (show InB 524288 (x 0, y 0, z 0) from hin), Bool.true_and]
    exact decide_eq_true (by
      have := num_in (k := turnOf (dirV x y z)) htt.2.1 htt.2.2.1
      exact this.symm)
theorem hasG_first {m : Mat} (h : 0 < m.ng) : m.gi (m.nm 0) = 0 ∧ m.hasG (m.nm 0) = true := by
  have e : m.gi (m.nm 0) = 0 := firstFrom_hit (p := fun i => (m.nm i).toList == (m.nm 0).toList) (n := m.ng) (j := 0) h (beq_self_eq_true _)
  exact ⟨e, by unfold Mat.hasG; rw [e]; exact decide_eq_true h⟩
theorem hasS_first {m : Mat} (h : 0 < m.ns) : m.si (m.sn 0) = 0 ∧ m.hasS (m.sn 0) = true := by
  have e : m.si (m.sn 0) = 0 := firstFrom_hit (p := fun i => (m.sn i).toList == (m.sn 0).toList) (n := m.ns) (j := 0) h (beq_self_eq_true _)
  exact ⟨e, by unfold Mat.hasS; rw [e]; exact decide_eq_true h⟩
/-- a whole variable stored or loaded, as one operation of a drawn region -/
theorem relOp_store_all {P : Program} {a : Act} {w : World} {R : Value → World → Prop} {p x : Tmp} {T : TypeId} {pos : String} {after : Array Edge} (t : TypeId) (b k : Nat) (cs0 cs : Array Value) (ty : TypeId)
    (hk : (P.info? t).map (fun i => i.size) = some k) (hp : a.eval (.tmp p) = .pointer (some ⟨b, 0, none⟩)) (hx : a.eval (.tmp x) = .agg cs) (hs : cs.size = k) (h0 : cs0.size = k) (h1 : cs.toList.all (fun v => v.oneCell') = true)
    (hh : w.heap[b]? = some (.cells cs0 ty)) (h : ∀ v, R v (w.setRow b cs)) : relOp P ⟨none, .store t (.tmp p) (.tmp x), T, pos, after, none⟩ a w R := by
  have hr := run_storeAt_all (P := P) hk hs h0 h1 hh
  unfold relOp execOp
  simp only [hp, hx]
  simp [hr, relUpon]
  exact h _
theorem relOp_load_all {P : Program} {a : Act} {w : World} {R : Value → World → Prop} {p d : Tmp} {T : TypeId} {pos : String} {after : Array Edge} {g : Option (Nat × Bool)} (t : TypeId) (b k : Nat) (cs : Array Value) (ty : TypeId) (fs : Array Field)
    (hu : P.underlying t = some (.struct fs)) (hk : (P.info? t).map (fun i => i.size) = some k) (hp : a.eval (.tmp p) = .pointer (some ⟨b, 0, none⟩)) (hs : cs.size = k)
    (hh : w.heap[b]? = some (.cells cs ty)) (h : R (.agg cs) w) : relOp P ⟨some d, .load t (.tmp p), T, pos, after, g⟩ a w R := by
  have hl := run_loadVar_all (P := P) hu hk hs hh
  unfold relOp execOp
  simp only [hp]
  simp [Instr.loadAt, Instr.sureAddr, hl, relUpon]
  exact h
end Go.Proofs.YtgbhhjdmochhpaaGreatDoor
