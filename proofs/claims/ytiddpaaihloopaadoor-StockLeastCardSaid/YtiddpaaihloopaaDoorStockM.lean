/-
  A plate and a bar, or a wish, as an argument. Conditions: none. By an AI agent.
-/
import Derived.Test.YtiddpaaihloopaaDoorStockL
namespace Go.Proofs.YtiddpaaihloopaaDoor
open Go Go.ChangeShapes Go.WideShapes Go.RowKit Go.ChangeAt
set_option linter.unusedSimpArgs false
set_option linter.unusedVariables false
section
variable {H : Type} {enc : TypeId × Value → H} {W : World}
set_option maxRecDepth 100000 in
theorem goods_arg {base : Nat} {r : Reach} {v : Value} {d : DataW H} {ps : List MemPlace} (hv : Value.okWide Tryd.prog W r base 42 v) (h : DataW.Trod enc Tryd.prog W 0 (fun _ => true) true 42 v d ps) : ∃ x0 x1 x2 x3 x4 x5 y0 y1 y2 y3 y4, v = .agg #[.string x0, .string x1, .int .i64 x2, .int .i64 x3, .int .i64 x4, .string x5, .string y0, .string y1, .string y2, .int .i64 y3, .string y4] := by
  obtain ⟨cs, rfl, hl, hc⟩ := leaf_struct (fs := Tryd.prog.fieldsOf 42) (k := 11) (by kernel_rfl) (by kernel_rfl) hv h
  match cs, hl with
  | [c0, c1, c2, c3, c4, c5, c6, c7, c8, c9, c10], _ =>
    obtain ⟨_, _, t0⟩ := hc 0 c0 rfl 8 9 (by kernel_rfl)
    obtain ⟨x0, rfl, _⟩ := leaf_string Tryd.underlying9 t0
    obtain ⟨_, _, t1⟩ := hc 1 c1 rfl 8 9 (by kernel_rfl)
    obtain ⟨x1, rfl, _⟩ := leaf_string Tryd.underlying9 t1
    obtain ⟨_, _, t2⟩ := hc 2 c2 rfl 8 3 (by kernel_rfl)
    obtain ⟨x2, rfl, _⟩ := leaf_i64 Tryd.underlying3 t2
    obtain ⟨_, _, t3⟩ := hc 3 c3 rfl 8 3 (by kernel_rfl)
    obtain ⟨x3, rfl, _⟩ := leaf_i64 Tryd.underlying3 t3
    obtain ⟨_, _, t4⟩ := hc 4 c4 rfl 8 3 (by kernel_rfl)
    obtain ⟨x4, rfl, _⟩ := leaf_i64 Tryd.underlying3 t4
    obtain ⟨_, _, t5⟩ := hc 5 c5 rfl 8 9 (by kernel_rfl)
    obtain ⟨x5, rfl, _⟩ := leaf_string Tryd.underlying9 t5
    obtain ⟨_, _, t6⟩ := hc 6 c6 rfl 8 9 (by kernel_rfl)
    obtain ⟨y0, rfl, _⟩ := leaf_string Tryd.underlying9 t6
    obtain ⟨_, _, t7⟩ := hc 7 c7 rfl 8 9 (by kernel_rfl)
    obtain ⟨y1, rfl, _⟩ := leaf_string Tryd.underlying9 t7
    obtain ⟨_, _, t8⟩ := hc 8 c8 rfl 8 9 (by kernel_rfl)
    obtain ⟨y2, rfl, _⟩ := leaf_string Tryd.underlying9 t8
    obtain ⟨_, _, t9⟩ := hc 9 c9 rfl 8 3 (by kernel_rfl)
    obtain ⟨y3, rfl, _⟩ := leaf_i64 Tryd.underlying3 t9
    obtain ⟨_, _, t10⟩ := hc 10 c10 rfl 8 9 (by kernel_rfl)
    obtain ⟨y4, rfl, _⟩ := leaf_string Tryd.underlying9 t10
    exact ⟨x0, x1, x2, x3, x4, x5, y0, y1, y2, y3, y4, rfl⟩
end
end Go.Proofs.YtiddpaaihloopaaDoor
