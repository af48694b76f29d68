/-
  The law CraneShares. Conditions: none. By an AI agent.
-/
import Derived.Test.YtmaopenmbngenaaCraneM
import Derived.Test.YtmaopenmbngenaaRows
namespace Go.Proofs.Ytmaopenmbngenaa
open Go Go.ChangeShapes Go.WideShapes Go.RowKit Go.ChangeAt
set_option linter.unusedSimpArgs false
set_option linter.unusedVariables false

theorem shareV_form (t : Int × Int × Int) : ∃ a b c, shareV t = .tuple #[.int .i64 a, .int .i64 b, .int .i64 c] := ⟨_, _, _, rfl⟩
set_option maxRecDepth 20000 in
set_option maxHeartbeats 4000000 in
theorem craneShares_walk (mass ax ay bx by' cx cy : Int) (w : World) : Calls Try.prog 6 #[.int .i64 mass, .agg #[.int .i64 ax, .int .i64 ay, .int .i64 bx, .int .i64 by', .int .i64 cx, .int .i64 cy]] w fun e w' => e = .returned (.bool true) ∧ Below w.heap.size w w' := by
  have HS := fun w => share_any mass ax ay bx by' cx cy w
  have HR := fun w => rshare_any mass ax ay bx by' cx cy w
  obtain ⟨a, b, c, hv⟩ := shareV_form (shareF mass ax ay bx by' cx cy)
  rw [hv] at HS HR
  have HSS := Lib.hid HS
  have HRR := Lib.hid HR
  clear hv HS HR
  go_enter Try.func6, Try.ntmps6
  go_wp2_with fail
  (go_at_call 22; refine (HSS.out _).mono ?_; rintro e w1 ⟨rfl, hb1⟩)
  have HB1 : Hid (Below (w.alloc (.cells #[.int .i64 ax, .int .i64 ay, .int .i64 bx, .int .i64 by', .int .i64 cx, .int .i64 cy] 41)).heap.size (w.alloc (.cells #[.int .i64 ax, .int .i64 ay, .int .i64 bx, .int .i64 by', .int .i64 cx, .int .i64 cy] 41)) w1) := hb1
  clear hb1
  have z1 : w.heap.size < w1.heap.size := by have := HB1.out.size; simp at this; omega
  have x10 : w1.cell? ⟨w.heap.size, 0, none⟩ = some (.int .i64 ax) := by rw [HB1.out.cell (p := ⟨_, _, none⟩) (by simp)]; simp [go_sem]
  have x11 : w1.cell? ⟨w.heap.size, 1, none⟩ = some (.int .i64 ay) := by rw [HB1.out.cell (p := ⟨_, _, none⟩) (by simp)]; simp [go_sem]
  have x12 : w1.cell? ⟨w.heap.size, 2, none⟩ = some (.int .i64 bx) := by rw [HB1.out.cell (p := ⟨_, _, none⟩) (by simp)]; simp [go_sem]
  have x13 : w1.cell? ⟨w.heap.size, 3, none⟩ = some (.int .i64 by') := by rw [HB1.out.cell (p := ⟨_, _, none⟩) (by simp)]; simp [go_sem]
  have x14 : w1.cell? ⟨w.heap.size, 4, none⟩ = some (.int .i64 cx) := by rw [HB1.out.cell (p := ⟨_, _, none⟩) (by simp)]; simp [go_sem]
  have x15 : w1.cell? ⟨w.heap.size, 5, none⟩ = some (.int .i64 cy) := by rw [HB1.out.cell (p := ⟨_, _, none⟩) (by simp)]; simp [go_sem]
  go_wp2_with fail
  (go_at_call 23; refine (HRR.out _).mono ?_; rintro e w2 ⟨rfl, hb1⟩)
  have HB2 : Hid (Below (w.alloc (.cells #[.int .i64 ax, .int .i64 ay, .int .i64 bx, .int .i64 by', .int .i64 cx, .int .i64 cy] 41)).heap.size (w.alloc (.cells #[.int .i64 ax, .int .i64 ay, .int .i64 bx, .int .i64 by', .int .i64 cx, .int .i64 cy] 41)) w2) := HB1.out.trans (hb1.mono HB1.out.size)
  clear hb1
  have z2 : w.heap.size < w2.heap.size := by have := HB2.out.size; simp at this; omega
  have x20 : w2.cell? ⟨w.heap.size, 0, none⟩ = some (.int .i64 ax) := by rw [HB2.out.cell (p := ⟨_, _, none⟩) (by simp)]; simp [go_sem]
  have x21 : w2.cell? ⟨w.heap.size, 1, none⟩ = some (.int .i64 ay) := by rw [HB2.out.cell (p := ⟨_, _, none⟩) (by simp)]; simp [go_sem]
  have x22 : w2.cell? ⟨w.heap.size, 2, none⟩ = some (.int .i64 bx) := by rw [HB2.out.cell (p := ⟨_, _, none⟩) (by simp)]; simp [go_sem]
  have x23 : w2.cell? ⟨w.heap.size, 3, none⟩ = some (.int .i64 by') := by rw [HB2.out.cell (p := ⟨_, _, none⟩) (by simp)]; simp [go_sem]
  have x24 : w2.cell? ⟨w.heap.size, 4, none⟩ = some (.int .i64 cx) := by rw [HB2.out.cell (p := ⟨_, _, none⟩) (by simp)]; simp [go_sem]
  have x25 : w2.cell? ⟨w.heap.size, 5, none⟩ = some (.int .i64 cy) := by rw [HB2.out.cell (p := ⟨_, _, none⟩) (by simp)]; simp [go_sem]
  go_wp2_with fail
  (go_at_call 12; refine (alive_any _).mono ?_; rintro e w3 ⟨rfl, hb1⟩)
  have HB3 : Hid (Below (w.alloc (.cells #[.int .i64 ax, .int .i64 ay, .int .i64 bx, .int .i64 by', .int .i64 cx, .int .i64 cy] 41)).heap.size (w.alloc (.cells #[.int .i64 ax, .int .i64 ay, .int .i64 bx, .int .i64 by', .int .i64 cx, .int .i64 cy] 41)) w3) := HB2.out.trans (hb1.mono HB2.out.size)
  clear hb1
  have z3 : w.heap.size < w3.heap.size := by have := HB3.out.size; simp at this; omega
  have x30 : w3.cell? ⟨w.heap.size, 0, none⟩ = some (.int .i64 ax) := by rw [HB3.out.cell (p := ⟨_, _, none⟩) (by simp)]; simp [go_sem]
  have x31 : w3.cell? ⟨w.heap.size, 1, none⟩ = some (.int .i64 ay) := by rw [HB3.out.cell (p := ⟨_, _, none⟩) (by simp)]; simp [go_sem]
  have x32 : w3.cell? ⟨w.heap.size, 2, none⟩ = some (.int .i64 bx) := by rw [HB3.out.cell (p := ⟨_, _, none⟩) (by simp)]; simp [go_sem]
  have x33 : w3.cell? ⟨w.heap.size, 3, none⟩ = some (.int .i64 by') := by rw [HB3.out.cell (p := ⟨_, _, none⟩) (by simp)]; simp [go_sem]
  have x34 : w3.cell? ⟨w.heap.size, 4, none⟩ = some (.int .i64 cx) := by rw [HB3.out.cell (p := ⟨_, _, none⟩) (by simp)]; simp [go_sem]
  have x35 : w3.cell? ⟨w.heap.size, 5, none⟩ = some (.int .i64 cy) := by rw [HB3.out.cell (p := ⟨_, _, none⟩) (by simp)]; simp [go_sem]
  go_wp2
  go_returns
  exact ⟨rfl, below_step (w := w) (by go_grown) HB3.out⟩

set_option maxRecDepth 100000 in
theorem craneShares_contract (H : Type) (enc : TypeId × Value → H) (W : World) (base : Nat) (args : Array Value) (ds gs : List (DataW H)) (before : List MemPlace)
    (hval : ∀ (j : Nat) t v, Try.f6.params[j]? = some t → args[j]? = some v → Value.okWide Try.prog W .any base t v)
    (hW : DataW.Whole enc Try.prog Try.f6.params.toList Rows.craneSharesSpec.vars false W args.toList ds gs before) (hL : laidMetH Try.prog Rows.craneSharesRow.laid W) :
    Calls Try.prog 6 args W fun e W' => ∃ v, e = .returned v ∧ Rows.craneSharesSpec.post enc Try.prog Try.f6 false true false false W args v W' := by
  have hW' := hW
  obtain ⟨p, q, hA0, hV, rfl, hfz, hnd⟩ := hW
  have hA : DataW.TrodAll enc Try.prog W 0 (fun _ => true) true Try.f6.params.toList args.toList ds p := hA0
  rw [Try.params6] at hA hval
  obtain ⟨v0, vs0, d0, ds0, p0, q0, hargs, rfl, rfl, h0, r0⟩ := trodAll_cons hA
  obtain ⟨v1, vs1, d1, ds1, p1, q1, rfl, rfl, rfl, h1, r1⟩ := trodAll_cons r0
  obtain ⟨rfl, rfl, rfl⟩ := trodAll_nil r1
  obtain rfl : args = #[v0, v1] := by cases args; simp_all
  obtain ⟨mass, rfl, rfl, rfl, _w0⟩ := open_int Try.underlying3 (hval 0 3 v0 rfl rfl) h0
  obtain ⟨zs1, rfl, hl1, hb1⟩ := flat_open_array (n := 8) (m := 3) (e := 40) (by kernel_rfl) (by kernel_rfl) (by kernel_rfl) (hval 1 41 v1 rfl rfl) h1
  obtain ⟨ax, ay, bx, by', cx, cy, rfl⟩ := list6 hl1
  refine (craneShares_walk mass ax ay bx by' cx cy W).mono fun e W' ⟨he, hb⟩ => ?_
  subst he
  exact ⟨_, rfl, law_post laidOut (by kernel_rfl) (by kernel_rfl) Try.underlying4 rfl hW' (fun _ => rfl) hb⟩
theorem craneShares_reads (os : Os) {H : Type} (enc : TypeId × Value → H) : ∃ places, DataW.whole enc Try.prog ((World.settled Try.prog os).forCall (fun _ _ => 0) ⟨#[], #[.int .i64 0, .agg #[.int .i64 0, .int .i64 0, .int .i64 0, .int .i64 0, .int .i64 0, .int .i64 0]], []⟩).memory Try.f6.params.toList Rows.craneSharesSpec.vars false (#[.int .i64 0, .agg #[.int .i64 0, .int .i64 0, .int .i64 0, .int .i64 0, .int .i64 0, .int .i64 0]] : Array Value).toList 8 = some ([.lit (.int .i64 0), .agg [.agg [.lit (.int .i64 0), .lit (.int .i64 0)], .agg [.lit (.int .i64 0), .lit (.int .i64 0)], .agg [.lit (.int .i64 0), .lit (.int .i64 0)]]], [], places) := ⟨[], by kernel_rfl⟩
set_option maxRecDepth 100000 in
theorem craneShares_lifted (os : Os) (started : os.Started) (H : Type) (enc : TypeId × Value → H) (F : Stop.Interp) :
    ReturnsInHanded {} Try.checked os 6 .any ((OpenSpec.ofChange Rows.craneSharesSpec).preRow enc Try.prog Try.f6 Rows.craneSharesRow.domain false Rows.craneSharesRow.laid) (((OpenSpec.ofChange Rows.craneSharesSpec).at F).post enc Try.prog Try.f6 false true false false) := by
  obtain ⟨places, hx⟩ := craneShares_reads os enc
  refine returnsInHanded_of_row (C := Try.checked) (s := OpenSpec.ofChange Rows.craneSharesSpec) own started (by kernel_rfl) Try.func6
    (witness_row_at (enc := enc) (C := Try.checked) false (World.settled Try.prog os) #[.int .i64 0, .agg #[.int .i64 0, .int .i64 0, .int .i64 0, .int .i64 0, .int .i64 0, .int .i64 0]] rfl (by kernel_rfl) (by kernel_rfl) (by kernel_rfl)
      (OpenSpec.preRow_of_cond 8 hx (by kernel_rfl) (fun k hk => by cases hk) (by kernel_rfl) (laidMet_nil _ _))) ?_
  intro W base args ds gs before hval hW _ _ _ hL _ _
  exact craneShares_contract H enc W base args ds gs before hval hW hL
theorem craneShares_said : Rows.CraneSharesSaid :=
  OpenClaim.holds_of_cond 6 Try.f6 rfl rfl rfl rfl rfl rfl rfl ⟨rfl, rfl, rfl, rfl, rfl⟩ rfl rfl rfl rfl rfl (by kernel_rfl) Try.func6 (by kernel_rfl)
    (of_decide_eq_true (by kernel_rfl)) (by unfold Func.isWrapper; rw [if_neg (of_decide_eq_false (by kernel_rfl))]; exact ⟨rfl, rfl⟩)
    (fun os started H enc _ F => by rw [OpenClaim.pre_eq_preRow]; exact craneShares_lifted os started H enc F)
#print axioms craneShares_said
end Go.Proofs.Ytmaopenmbngenaa
