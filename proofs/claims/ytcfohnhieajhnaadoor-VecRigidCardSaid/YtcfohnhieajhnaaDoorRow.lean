/-
  What every row of this seat shares: what the listed variable gives the walks, a world for the witness. Conditions: none. By an AI agent.
-/
import Derived.Test.YtcfohnhieajhnaaDoorAwake
import Derived.Test.YtcfohnhieajhnaaDoorCards
import Derived.Test.YtcfohnhieajhnaaDoorTie
namespace Go.Proofs.YtcfohnhieajhnaaDoor
open Go.ChangeShapes Go.WideShapes Go.ChangeAt Go.RowKit

theorem gProbe : Tryd.prog.globalNamed "shipyard/vec.probe" = some 0 := by kernel_rfl
theorem gProbeType : (Tryd.prog.globals[0]?).map (·.type) = some 27 := by kernel_rfl
theorem flatVec : flatB Tryd.prog 8 27 = true := by kernel_rfl
theorem cellsVec : Tryd.prog.cellsOf 27 = 3 := by kernel_rfl

/-- the listed variable holds its three numbers -/
theorem probe_of_laid {W : World} (h : laidMetH Tryd.prog [("shipyard/vec.probe", Rows.laid_shipyard_vec_probe)] W) : ProbeIs W := by
  rw [MakeChecks.laidMetH_plain _ _ _ (by kernel_rfl)] at h
  obtain ⟨ps, ⟨g0, t0, cs0, f0, p0, q0, hg0, ht0, hv0, hd0, _, _⟩, _, _⟩ := h
  obtain rfl := Option.some.inj (gProbe.symm.trans hg0)
  obtain rfl := Option.some.inj (gProbeType.symm.trans ht0)
  have hu : Tryd.prog.underlying 27 = some (.struct (Tryd.prog.fieldsOf 27)) := by kernel_rfl
  obtain ⟨xs, n, _, hx, hlen, hxl, hf⟩ := DataW.trod_struct hu hd0
  obtain ⟨l⟩ := cs0
  rw [cellsVec] at hlen
  match l, hlen with
  | [c0, c1, c2], _ =>
    simp only [Prod.mk.injEq] at hx
    have h0 := hf 0 ((Tryd.prog.fieldsOf 27)[0]!) (by kernel_rfl)
    have h1 := hf 1 ((Tryd.prog.fieldsOf 27)[1]!) (by kernel_rfl)
    have h2 := hf 2 ((Tryd.prog.fieldsOf 27)[2]!) (by kernel_rfl)
    rw [show (Tryd.prog.fieldsOf 27)[0]!.type = 3 by kernel_rfl, show (Tryd.prog.fieldsOf 27)[0]!.offset = 0 by kernel_rfl, show Tryd.prog.cellsOf 3 = 1 by kernel_rfl] at h0
    rw [show (Tryd.prog.fieldsOf 27)[1]!.type = 3 by kernel_rfl, show (Tryd.prog.fieldsOf 27)[1]!.offset = 1 by kernel_rfl, show Tryd.prog.cellsOf 3 = 1 by kernel_rfl] at h1
    rw [show (Tryd.prog.fieldsOf 27)[2]!.type = 3 by kernel_rfl, show (Tryd.prog.fieldsOf 27)[2]!.offset = 2 by kernel_rfl, show Tryd.prog.cellsOf 3 = 1 by kernel_rfl] at h2
    have hsz : (Tryd.prog.fieldsOf 27).size = 3 := by kernel_rfl
    rw [hsz] at hxl
    match xs, hxl, hx, h0, h1, h2 with
    | [x0, x1, x2], _, hx, h0, h1, h2 =>
      have hd : DataW.agg [x0.1, x1.1, x2.1] = Rows.laid_shipyard_vec_probe (H := Unit) := by simpa using hx.1.symm
      unfold Rows.laid_shipyard_vec_probe at hd
      simp only [DataW.agg.injEq, List.cons.injEq, and_true] at hd
      have hi : Tryd.prog.underlying 3 = some (.int .i64) := by kernel_rfl
      have h0' : DataW.trod _ Tryd.prog W 0 _ false n 3 [c0] = some x0 := h0
      have h1' : DataW.trod _ Tryd.prog W 0 _ false n 3 [c1] = some x1 := h1
      have h2' : DataW.trod _ Tryd.prog W 0 _ false n 3 [c2] = some x2 := h2
      obtain ⟨z0, e0, d0, _⟩ := DataW.trod_int hi h0'
      obtain ⟨z1, e1, d1, _⟩ := DataW.trod_int hi h1'
      obtain ⟨z2, e2, d2, _⟩ := DataW.trod_int hi h2'
      rw [d0, d1, d2] at hd
      simp at hd e0 e1 e2
      obtain ⟨rfl, rfl, rfl⟩ := hd
      subst e0 e1 e2
      have k0 := World.var?_cell hg0 hv0 0
      have k1 := World.var?_cell hg0 hv0 1
      have k2 := World.var?_cell hg0 hv0 2
      exact ⟨by simpa using k0, by simpa using k1, by simpa using k2⟩

/-- a world for the witness: the settled one, the variable holding what its initialiser lays -/
noncomputable def laidWorld (os : Os) : World :=
  { World.holding Tryd.prog os ⟨#[], #[], []⟩ with heap := (World.holding Tryd.prog os ⟨#[], #[], []⟩).heap.modify 0 fun
      | .cells _ t frozen => .cells #[.int .i64 1, .int .i64 2, .int .i64 3] t frozen
      | o => o }
end Go.Proofs.YtcfohnhieajhnaaDoor
