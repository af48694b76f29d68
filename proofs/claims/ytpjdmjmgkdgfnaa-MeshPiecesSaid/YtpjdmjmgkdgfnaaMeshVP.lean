/-
  The arguments opened; equal Wides, boxes. Conditions: none. By an AI agent.
-/
import Derived.Test.YtpjdmjmgkdgfnaaMeshUP
import Derived.Test.YtpjdmjmgkdgfnaaLeaf
import Derived.Test.YtpjdmjmgkdgfnaaRows
namespace Go.Proofs.Ytpjdmjmgkdgfnaa
open Go Go.ChangeShapes Go.WideShapes Go.RowKit Go.ChangeAt
set_option linter.unusedVariables false
set_option linter.unusedSimpArgs false
set_option maxRecDepth 100000

theorem mag_self (d : Nat) (a b c e : Int) (w : World) : (Op.equalIn (d + 2) 31 (.agg #[.int .u64 a, .int .u64 b, .int .u64 c, .int .u64 e]) (.agg #[.int .u64 a, .int .u64 b, .int .u64 c, .int .u64 e])).run Try.prog w = .ok true w := by
  rw [Op.equalIn]
  simp only [Sem.run_bind, run_underlying Try.underlying31, Result.andThen_ok]
  simp only [Std.Legacy.Range.forIn_eq_forIn_range', Std.Legacy.Range.size, Nat.sub_zero, Nat.add_sub_cancel, Nat.div_one, List.range'_succ, List.range'_zero, List.forIn_cons, List.forIn_nil]
  go_simp
theorem wide_self (d : Nat) (s : Bool) (a b c e : Int) (w : World) : (Op.equalIn (d + 3) 33 (.agg #[.bool s, .int .u64 a, .int .u64 b, .int .u64 c, .int .u64 e]) (.agg #[.bool s, .int .u64 a, .int .u64 b, .int .u64 c, .int .u64 e])).run Try.prog w = .ok true w := by
  rw [run_equalIn_struct w _ _ _ _ (by kernel_rfl) (by kernel_rfl)]
  have h := mag_self d a b c e w
  simp [go_sem, h]
theorem wide3_self (d : Nat) (x0 x1 x2 x3 x4 x5 x6 x7 x8 x9 x10 x11 : Int) (s0 s1 s2 : Bool) (w : World) : (Op.equalIn (d + 4) 36 (.agg #[.bool s0, .int .u64 x0, .int .u64 x1, .int .u64 x2, .int .u64 x3, .bool s1, .int .u64 x4, .int .u64 x5, .int .u64 x6, .int .u64 x7, .bool s2, .int .u64 x8, .int .u64 x9, .int .u64 x10, .int .u64 x11]) (.agg #[.bool s0, .int .u64 x0, .int .u64 x1, .int .u64 x2, .int .u64 x3, .bool s1, .int .u64 x4, .int .u64 x5, .int .u64 x6, .int .u64 x7, .bool s2, .int .u64 x8, .int .u64 x9, .int .u64 x10, .int .u64 x11])).run Try.prog w = .ok true w := by
  have h0 := mag_self d x0 x1 x2 x3
  have h1 := mag_self d x4 x5 x6 x7
  have h2 := mag_self d x8 x9 x10 x11
  rw [Op.equalIn]
  simp only [Sem.run_bind, run_underlying Try.underlying36, Result.andThen_ok]
  simp only [Std.Legacy.Range.forIn_eq_forIn_range', Std.Legacy.Range.size, Nat.sub_zero, Nat.add_sub_cancel, Nat.div_one, List.range'_succ, List.range'_zero, List.forIn_cons, List.forIn_nil]
  simp [go_sem, h0, h1, h2]
theorem vec_self (d : Nat) (a b c : Int) (w : World) : (Op.equalIn (d + 2) 40 (.agg #[.int .i64 a, .int .i64 b, .int .i64 c]) (.agg #[.int .i64 a, .int .i64 b, .int .i64 c])).run Try.prog w = .ok true w := by
  rw [run_equalIn_struct w _ _ _ _ (by kernel_rfl) (by kernel_rfl)]
  simp [go_sem]
theorem box_self (d : Nat) (a b c e f g : Int) (w : World) : (Op.equalIn (d + 3) 46 (.agg #[.int .i64 a, .int .i64 b, .int .i64 c, .int .i64 e, .int .i64 f, .int .i64 g]) (.agg #[.int .i64 a, .int .i64 b, .int .i64 c, .int .i64 e, .int .i64 f, .int .i64 g])).run Try.prog w = .ok true w := by
  have h0 := vec_self d a b c
  have h1 := vec_self d e f g
  rw [run_equalIn_struct w _ _ _ _ (by kernel_rfl) (by kernel_rfl)]
  simp [go_sem, h0, h1]
theorem eql_of {t : TypeId} {xs : Array Value} {w : World} (h : (Op.equalIn 10000 t (.agg xs) (.agg xs)).run Try.prog w = .ok true w) : (binOp .eql t (.agg xs) (.agg xs)).run Try.prog w = .ok (.bool true) w := by rw [run_eql_struct, h]; rfl
theorem eql_wide (s : Bool) (a b c e : Int) (w : World) : (binOp .eql 33 (.agg #[.bool s, .int .u64 a, .int .u64 b, .int .u64 c, .int .u64 e]) (.agg #[.bool s, .int .u64 a, .int .u64 b, .int .u64 c, .int .u64 e])).run Try.prog w = .ok (.bool true) w := eql_of (wide_self 9997 s a b c e w)
theorem neq_wide (s : Bool) (a b c e : Int) (w : World) : (binOp .neq 33 (.agg #[.bool s, .int .u64 a, .int .u64 b, .int .u64 c, .int .u64 e]) (.agg #[.bool s, .int .u64 a, .int .u64 b, .int .u64 c, .int .u64 e])).run Try.prog w = .ok (.bool false) w := by rw [run_neq_struct, wide_self 9997 s a b c e w]; rfl
theorem eql_wide3 (x0 x1 x2 x3 x4 x5 x6 x7 x8 x9 x10 x11 : Int) (s0 s1 s2 : Bool) (w : World) : (binOp .eql 36 (.agg #[.bool s0, .int .u64 x0, .int .u64 x1, .int .u64 x2, .int .u64 x3, .bool s1, .int .u64 x4, .int .u64 x5, .int .u64 x6, .int .u64 x7, .bool s2, .int .u64 x8, .int .u64 x9, .int .u64 x10, .int .u64 x11]) (.agg #[.bool s0, .int .u64 x0, .int .u64 x1, .int .u64 x2, .int .u64 x3, .bool s1, .int .u64 x4, .int .u64 x5, .int .u64 x6, .int .u64 x7, .bool s2, .int .u64 x8, .int .u64 x9, .int .u64 x10, .int .u64 x11])).run Try.prog w = .ok (.bool true) w := eql_of (wide3_self 9996 x0 x1 x2 x3 x4 x5 x6 x7 x8 x9 x10 x11 s0 s1 s2 w)
theorem eql_l3 (f : Nat → Int) (w : World) : (binOp .eql 36 (.agg (lC f 3)) (.agg (lC f 3))).run Try.prog w = .ok (.bool true) w := eql_wide3 _ _ _ _ _ _ _ _ _ _ _ _ _ _ _ w
theorem eql_box (a b c e f g : Int) (w : World) : (binOp .eql 46 (.agg #[.int .i64 a, .int .i64 b, .int .i64 c, .int .i64 e, .int .i64 f, .int .i64 g]) (.agg #[.int .i64 a, .int .i64 b, .int .i64 c, .int .i64 e, .int .i64 f, .int .i64 g])).run Try.prog w = .ok (.bool true) w := eql_of (box_self 9997 a b c e f g w)
section
variable {H : Type} {enc : TypeId × Value → H} {W : World}
set_option maxRecDepth 100000 in
theorem vecs_leaf {fuel : Nat} {v : Value} {x : DataW H × List MemPlace} (h : DataW.trod enc Try.prog W 0 (fun _ => true) true fuel 22 [v] = some x) : ∃ n F, RowAt W v n F := by
  rcases leaf_slice (sz := 3) (e := 40) (by kernel_rfl) (by kernel_rfl) h with rfl | ⟨a, len, cap, rfl, hl, hm, hi⟩
  · exact ⟨0, fun _ => (0, 0, 0), ⟨none, 0, rfl, by omega, by omega, fun h => by omega⟩⟩
  · obtain ⟨g, hg⟩ := pick_each (α := Int × Int × Int) (n := len) (p := fun i p => W.cell? (a.add (i * 3 + 0)) = some (.int .i64 p.1) ∧ W.cell? (a.add (i * 3 + 1)) = some (.int .i64 p.2.1) ∧ W.cell? (a.add (i * 3 + 2)) = some (.int .i64 p.2.2)) (fun i hil => by
      obtain ⟨c0, h0, t0⟩ := hi i hil 0 (by omega)
      obtain ⟨c1, h1, t1⟩ := hi i hil 1 (by omega)
      obtain ⟨c2, h2, t2⟩ := hi i hil 2 (by omega)
      obtain ⟨_, _, t0⟩ := t0 8 3 (by kernel_rfl)
      obtain ⟨_, _, t1⟩ := t1 8 3 (by kernel_rfl)
      obtain ⟨_, _, t2⟩ := t2 8 3 (by kernel_rfl)
      obtain ⟨z0, rfl, _⟩ := leaf_i64 Try.underlying3 t0
      obtain ⟨z1, rfl, _⟩ := leaf_i64 Try.underlying3 t1
      obtain ⟨z2, rfl, _⟩ := leaf_i64 Try.underlying3 t2
      exact ⟨(z0, z1, z2), h0, h1, h2⟩)
    refine ⟨len, fun i => g i, sliceAt_of _ hl hm (by decide) fun i hil j hj => ?_⟩
    rcases (by omega : j = 0 ∨ j = 1 ∨ j = 2) with rfl | rfl | rfl
    · exact (hg i hil).1
    · exact (hg i hil).2.1
    · exact (hg i hil).2.2
set_option maxRecDepth 100000 in
theorem faces_leaf {fuel : Nat} {v : Value} {x : DataW H × List MemPlace} (h : DataW.trod enc Try.prog W 0 (fun _ => true) true fuel 23 [v] = some x) : ∃ n F, RowAt W v n F := by
  rcases leaf_slice (sz := 3) (e := 56) (by kernel_rfl) (by kernel_rfl) h with rfl | ⟨a, len, cap, rfl, hl, hm, hi⟩
  · exact ⟨0, fun _ => (0, 0, 0), ⟨none, 0, rfl, by omega, by omega, fun h => by omega⟩⟩
  · obtain ⟨g, hg⟩ := pick_each (α := Int × Int × Int) (n := len) (p := fun i p => W.cell? (a.add (i * 3 + 0)) = some (.int .i64 p.1) ∧ W.cell? (a.add (i * 3 + 1)) = some (.int .i64 p.2.1) ∧ W.cell? (a.add (i * 3 + 2)) = some (.int .i64 p.2.2)) (fun i hil => by
      obtain ⟨c0, h0, t0⟩ := hi i hil 0 (by omega)
      obtain ⟨c1, h1, t1⟩ := hi i hil 1 (by omega)
      obtain ⟨c2, h2, t2⟩ := hi i hil 2 (by omega)
      obtain ⟨_, _, t0⟩ := t0 8 3 (by kernel_rfl)
      obtain ⟨_, _, t1⟩ := t1 8 3 (by kernel_rfl)
      obtain ⟨_, _, t2⟩ := t2 8 3 (by kernel_rfl)
      obtain ⟨z0, rfl, _⟩ := leaf_i64 Try.underlying3 t0
      obtain ⟨z1, rfl, _⟩ := leaf_i64 Try.underlying3 t1
      obtain ⟨z2, rfl, _⟩ := leaf_i64 Try.underlying3 t2
      exact ⟨(z0, z1, z2), h0, h1, h2⟩)
    refine ⟨len, fun i => g i, sliceAt_of _ hl hm (by decide) fun i hil j hj => ?_⟩
    rcases (by omega : j = 0 ∨ j = 1 ∨ j = 2) with rfl | rfl | rfl
    · exact (hg i hil).1
    · exact (hg i hil).2.1
    · exact (hg i hil).2.2
set_option maxRecDepth 100000 in
theorem mesh_arg {base : Nat} {r : Reach} {v : Value} {d : DataW H} {ps : List MemPlace} (hv : Value.okWide Try.prog W r base 25 v) (h : DataW.Trod enc Try.prog W 0 (fun _ => true) true 25 v d ps) :
    ∃ np P nf F, MAt W v np P nf F := by
  obtain ⟨cs, rfl, hl, hc⟩ := leaf_struct (fs := Try.prog.fieldsOf 25) (k := 2) (by kernel_rfl) (by kernel_rfl) hv h
  match cs, hl with
  | [c0, c1], _ =>
    obtain ⟨_, _, t0⟩ := hc 0 c0 rfl 8 22 (by kernel_rfl)
    obtain ⟨_, _, t1⟩ := hc 1 c1 rfl 8 23 (by kernel_rfl)
    obtain ⟨np, P, hp⟩ := vecs_leaf t0
    obtain ⟨nf, F, hf⟩ := faces_leaf t1
    exact ⟨np, P, nf, F, _, _, rfl, hp, hf⟩
set_option maxRecDepth 100000 in
theorem place_arg {base : Nat} {r : Reach} {v : Value} {d : DataW H} {ps : List MemPlace} (hv : Value.okWide Try.prog W r base 42 v) (h : DataW.Trod enc Try.prog W 0 (fun _ => true) true 42 v d ps) :
    ∃ a b c k : Int, v = .agg #[.int .i64 a, .int .i64 b, .int .i64 c, .int .i64 k] ∧ (-9223372036854775808 ≤ a ∧ a ≤ 9223372036854775807) ∧ (-9223372036854775808 ≤ b ∧ b ≤ 9223372036854775807) ∧ (-9223372036854775808 ≤ c ∧ c ≤ 9223372036854775807) ∧ (-9223372036854775808 ≤ k ∧ k ≤ 9223372036854775807) := by
  obtain ⟨cs, rfl, hl, hc⟩ := leaf_struct (fs := Try.prog.fieldsOf 42) (k := 4) (by kernel_rfl) (by kernel_rfl) hv h
  match cs, hl with
  | [c0, c1, c2, c3], _ =>
    obtain ⟨_, _, t0⟩ := hc 0 c0 rfl 8 3 (by kernel_rfl)
    obtain ⟨_, _, t1⟩ := hc 1 c1 rfl 8 3 (by kernel_rfl)
    obtain ⟨_, _, t2⟩ := hc 2 c2 rfl 8 3 (by kernel_rfl)
    obtain ⟨_, _, t3⟩ := hc 3 c3 rfl 8 3 (by kernel_rfl)
    obtain ⟨z0, rfl, b0⟩ := leaf_i64 Try.underlying3 t0
    obtain ⟨z1, rfl, b1⟩ := leaf_i64 Try.underlying3 t1
    obtain ⟨z2, rfl, b2⟩ := leaf_i64 Try.underlying3 t2
    obtain ⟨z3, rfl, b3⟩ := leaf_i64 Try.underlying3 t3
    exact ⟨z0, z1, z2, z3, rfl, b0, b1, b2, b3⟩
set_option maxRecDepth 100000 in
theorem vec_arg {base : Nat} {r : Reach} {v : Value} {d : DataW H} {ps : List MemPlace} (hv : Value.okWide Try.prog W r base 40 v) (h : DataW.Trod enc Try.prog W 0 (fun _ => true) true 40 v d ps) :
    ∃ a b c : Int, v = .agg #[.int .i64 a, .int .i64 b, .int .i64 c] ∧ (-9223372036854775808 ≤ a ∧ a ≤ 9223372036854775807) ∧ (-9223372036854775808 ≤ b ∧ b ≤ 9223372036854775807) ∧ (-9223372036854775808 ≤ c ∧ c ≤ 9223372036854775807) := by
  obtain ⟨cs, rfl, hl, hc⟩ := leaf_struct (fs := Try.prog.fieldsOf 40) (k := 3) (by kernel_rfl) (by kernel_rfl) hv h
  match cs, hl with
  | [c0, c1, c2], _ =>
    obtain ⟨_, _, t0⟩ := hc 0 c0 rfl 8 3 (by kernel_rfl)
    obtain ⟨_, _, t1⟩ := hc 1 c1 rfl 8 3 (by kernel_rfl)
    obtain ⟨_, _, t2⟩ := hc 2 c2 rfl 8 3 (by kernel_rfl)
    obtain ⟨z0, rfl, b0⟩ := leaf_i64 Try.underlying3 t0
    obtain ⟨z1, rfl, b1⟩ := leaf_i64 Try.underlying3 t1
    obtain ⟨z2, rfl, b2⟩ := leaf_i64 Try.underlying3 t2
    exact ⟨z0, z1, z2, rfl, b0, b1, b2⟩
end
end Go.Proofs.Ytpjdmjmgkdgfnaa
