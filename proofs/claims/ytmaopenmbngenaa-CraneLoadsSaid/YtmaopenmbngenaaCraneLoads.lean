/-
  The law CraneLoads. Conditions: none. By an AI agent.
-/
import Derived.Test.YtmaopenmbngenaaCraneN
import Derived.Test.YtmaopenmbngenaaRows
namespace Go.Proofs.Ytmaopenmbngenaa
open Go Go.ChangeShapes Go.WideShapes Go.RowKit Go.ChangeAt
set_option linter.unusedSimpArgs false
set_option linter.unusedVariables false

theorem one_crane {w : World} {s : ByteArray} {oa : Option Addr} {n cap : Nat} {r q : Nat → Int} (hs : s.size ≤ 9223372036854775807) (h : PairsAt w (.slice oa n cap) n r q) :
    CranesAt ((w.alloc (.cells #[.string s, .slice oa n cap] 29)).alloc (.cells #[.string s, .slice oa n cap] 29)) (.slice (some ⟨w.heap.size + 1, 0, none⟩) 1 1) 1 (fun _ => s) (fun _ => .slice oa n cap) (fun _ => n) (fun _ => r) (fun _ => q) := by
  refine ⟨⟨_, 1, rfl, by omega, by omega, fun _ => ⟨_, 0, rfl, by simp, fun i j hi hj => ?_⟩⟩, fun i hi => ⟨hs, h.below (((Below.refl w.heap.size w).alloc (Nat.le_refl _) _).alloc (by simp) _)⟩⟩
  rcases (by omega : i = 0) with rfl
  rcases (by omega : j = 0 ∨ j = 1) with rfl | rfl <;> simp [go_sem]
set_option maxRecDepth 20000 in
set_option maxHeartbeats 4000000 in
theorem craneLoads_walk (v : Value) (s : ByteArray) (n : Nat) (r q : Nat → Int) (x y : Int) (w : World) (hs : s.size ≤ 9223372036854775807) (h : PairsAt w v n r q) : Calls Try.prog 4 #[.agg #[.string s, v], .int .i64 x, .int .i64 y] w fun e w' => e = .returned (.bool true) ∧ Below w.heap.size w w' := by
  obtain ⟨oa, cap, rfl, hn, -⟩ := h.form
  have HC := Lib.hid (one_crane hs h)
  have HP : Hid (PairsAt ((w.alloc (.cells #[.string s, .slice oa n cap] 29)).alloc (.cells #[.string s, .slice oa n cap] 29)) (.slice oa n cap) n r q) := h.below (((Below.refl w.heap.size w).alloc (Nat.le_refl _) _).alloc (by simp) _)
  clear h
  obtain ⟨F, hF⟩ : ∃ F, fewB 1 (fun _ => s) (fun _ => n) = F := ⟨_, rfl⟩
  have HF := Lib.hid hF
  clear hF
  cases F
  · go_enter Try.func4, Try.ntmps4
    go_wp2_with fail
    (go_at_call 9; refine (few_any _ 1 (fun _ => s) (fun _ => .slice oa n cap) (fun _ => n) (fun _ => r) (fun _ => q) _ HC.out).mono ?_; rintro e w1 ⟨rfl, hb1⟩)
    rw [HF.out]
    have HB1 : Hid (Below ((w.alloc (.cells #[.string s, .slice oa n cap] 29)).alloc (.cells #[.string s, .slice oa n cap] 29)).heap.size ((w.alloc (.cells #[.string s, .slice oa n cap] 29)).alloc (.cells #[.string s, .slice oa n cap] 29)) w1) := hb1
    clear hb1
    have z1 : w.heap.size < w1.heap.size := by have := HB1.out.size; simp at this; omega
    have x10 : w1.cell? ⟨w.heap.size, 0, none⟩ = some (.string s) := by rw [HB1.out.cell (p := ⟨_, _, none⟩) (by simp <;> omega)]; simp [go_sem]
    have x11 : w1.cell? ⟨w.heap.size, 1, none⟩ = some (.slice oa n cap) := by rw [HB1.out.cell (p := ⟨_, _, none⟩) (by simp <;> omega)]; simp [go_sem]
    go_wp2_with fail
    (go_at_call 12; refine (alive_any _).mono ?_; rintro e w2 ⟨rfl, hb1⟩)
    have HB2 : Hid (Below ((w.alloc (.cells #[.string s, .slice oa n cap] 29)).alloc (.cells #[.string s, .slice oa n cap] 29)).heap.size ((w.alloc (.cells #[.string s, .slice oa n cap] 29)).alloc (.cells #[.string s, .slice oa n cap] 29)) w2) := HB1.out.trans (hb1.mono HB1.out.size)
    clear hb1
    have z2 : w.heap.size < w2.heap.size := by have := HB2.out.size; simp at this; omega
    have x20 : w2.cell? ⟨w.heap.size, 0, none⟩ = some (.string s) := by rw [HB2.out.cell (p := ⟨_, _, none⟩) (by simp <;> omega)]; simp [go_sem]
    have x21 : w2.cell? ⟨w.heap.size, 1, none⟩ = some (.slice oa n cap) := by rw [HB2.out.cell (p := ⟨_, _, none⟩) (by simp <;> omega)]; simp [go_sem]
    go_wp2
    go_returns
    exact ⟨rfl, below_step (w := w) (by go_grown) HB2.out⟩
  · have hpc := past_cell
    go_enter Try.func4, Try.ntmps4
    go_wp2_with fail
    (go_at_call 9; refine (few_any _ 1 (fun _ => s) (fun _ => .slice oa n cap) (fun _ => n) (fun _ => r) (fun _ => q) _ HC.out).mono ?_; rintro e w1 ⟨rfl, hb1⟩)
    rw [HF.out]
    have HB1 : Hid (Below ((w.alloc (.cells #[.string s, .slice oa n cap] 29)).alloc (.cells #[.string s, .slice oa n cap] 29)).heap.size ((w.alloc (.cells #[.string s, .slice oa n cap] 29)).alloc (.cells #[.string s, .slice oa n cap] 29)) w1) := hb1
    clear hb1
    have z1 : w.heap.size < w1.heap.size := by have := HB1.out.size; simp at this; omega
    have x10 : w1.cell? ⟨w.heap.size, 0, none⟩ = some (.string s) := by rw [HB1.out.cell (p := ⟨_, _, none⟩) (by simp <;> omega)]; simp [go_sem]
    have x11 : w1.cell? ⟨w.heap.size, 1, none⟩ = some (.slice oa n cap) := by rw [HB1.out.cell (p := ⟨_, _, none⟩) (by simp <;> omega)]; simp [go_sem]
    go_wp2_with fail
    refine wp_region_past (by kernel_rfl) (by kernel_rfl) ?_
    iterate 2 go_big_quiet_step (fail)
    go_big_quiet_step ((go_at_call 13; exact past_of (load_any _ _ _ _ _ _ _ ((HP.out.below HB1.out).below (Past.h _)))))
    iterate 2 go_big_quiet_step (fail)
    go_big_quiet_step ((go_at_call 14; exact past_of (rload_any _ _ _ _ _ _ _ ((HP.out.below HB1.out).below (Past.h _)))))
    iterate 4 go_big_quiet_step (fail)
    go_big_quiet_step ((go_at_call 15; exact past_of (reach_any _ _ _ _ _ _ _ ((HP.out.below HB1.out).below (Past.h _)))))
    iterate 2 go_big_quiet_step (fail)
    go_big_quiet_step ((go_at_call 16; exact past_of (rreach_any _ _ _ _ _ _ _ ((HP.out.below HB1.out).below (Past.h _)))))
    iterate 3 go_big_quiet_step (fail)
    go_big_quiet_step ((go_at_call 12; exact past_of (alive_any _)))
    iterate 2 go_big_quiet_step (fail)
    refine wpQuiet_nil ?_
    intro w2 hw'
    have hb1 := past_out hw'
    clear hw'
    have HB2 : Hid (Below ((w.alloc (.cells #[.string s, .slice oa n cap] 29)).alloc (.cells #[.string s, .slice oa n cap] 29)).heap.size ((w.alloc (.cells #[.string s, .slice oa n cap] 29)).alloc (.cells #[.string s, .slice oa n cap] 29)) w2) := HB1.out.trans (hb1.mono HB1.out.size)
    clear hb1
    go_wp2
    go_returns
    exact ⟨rfl, below_step (w := w) (by go_grown) HB2.out⟩

set_option maxRecDepth 100000 in
theorem craneLoads_contract (H : Type) (enc : TypeId × Value → H) (W : World) (base : Nat) (args : Array Value) (ds gs : List (DataW H)) (before : List MemPlace)
    (hval : ∀ (j : Nat) t v, Try.f4.params[j]? = some t → args[j]? = some v → Value.okWide Try.prog W .any base t v)
    (hW : DataW.Whole enc Try.prog Try.f4.params.toList Rows.craneLoadsSpec.vars false W args.toList ds gs before) (hL : laidMetH Try.prog Rows.craneLoadsRow.laid W) :
    Calls Try.prog 4 args W fun e W' => ∃ v, e = .returned v ∧ Rows.craneLoadsSpec.post enc Try.prog Try.f4 false true false false W args v W' := by
  have hW' := hW
  obtain ⟨p, q, hA0, hV, rfl, hfz, hnd⟩ := hW
  have hA : DataW.TrodAll enc Try.prog W 0 (fun _ => true) true Try.f4.params.toList args.toList ds p := hA0
  rw [Try.params4] at hA hval
  obtain ⟨v0, vs0, d0, ds0, p0, q0, hargs, rfl, rfl, h0, r0⟩ := trodAll_cons hA
  obtain ⟨v1, vs1, d1, ds1, p1, q1, rfl, rfl, rfl, h1, r1⟩ := trodAll_cons r0
  obtain ⟨v2, vs2, d2, ds2, p2, q2, rfl, rfl, rfl, h2, r2⟩ := trodAll_cons r1
  obtain ⟨rfl, rfl, rfl⟩ := trodAll_nil r2
  obtain rfl : args = #[v0, v1, v2] := by cases args; simp_all
  obtain ⟨s, sv, n, rr, qq, rfl, hs, hpr⟩ := crane_of (hval 0 29 v0 rfl rfl) h0
  obtain ⟨rad, rfl, rfl, rfl, _w1⟩ := open_int Try.underlying3 (hval 1 3 v1 rfl rfl) h1
  obtain ⟨lo, rfl, rfl, rfl, _w2⟩ := open_int Try.underlying3 (hval 2 3 v2 rfl rfl) h2
  refine (craneLoads_walk _ s n rr qq rad lo W hs hpr).mono fun e W' ⟨he, hb⟩ => ?_
  subst he
  exact ⟨_, rfl, law_post laidOut (by kernel_rfl) (by kernel_rfl) Try.underlying4 rfl hW' (fun _ => rfl) hb⟩
theorem craneLoads_reads (os : Os) {H : Type} (enc : TypeId × Value → H) : ∃ places, DataW.whole enc Try.prog ((World.settled Try.prog os).forCall (fun _ _ => 0) ⟨#[], #[.agg #[.string ⟨#[]⟩, .slice none 0 0], .int .i64 0, .int .i64 0], []⟩).memory Try.f4.params.toList Rows.craneLoadsSpec.vars false (#[.agg #[.string ⟨#[]⟩, .slice none 0 0], .int .i64 0, .int .i64 0] : Array Value).toList 8 = some ([.agg [.lit (.string []), .nil], .lit (.int .i64 0), .lit (.int .i64 0)], [], places) := ⟨[], by kernel_rfl⟩
set_option maxRecDepth 100000 in
theorem craneLoads_lifted (os : Os) (started : os.Started) (H : Type) (enc : TypeId × Value → H) (F : Stop.Interp) :
    ReturnsInHanded {} Try.checked os 4 .any ((OpenSpec.ofChange Rows.craneLoadsSpec).preRow enc Try.prog Try.f4 Rows.craneLoadsRow.domain false Rows.craneLoadsRow.laid) (((OpenSpec.ofChange Rows.craneLoadsSpec).at F).post enc Try.prog Try.f4 false true false false) := by
  obtain ⟨places, hx⟩ := craneLoads_reads os enc
  refine returnsInHanded_of_row (C := Try.checked) (s := OpenSpec.ofChange Rows.craneLoadsSpec) own started (by kernel_rfl) Try.func4
    (witness_row_at (enc := enc) (C := Try.checked) false (World.settled Try.prog os) #[.agg #[.string ⟨#[]⟩, .slice none 0 0], .int .i64 0, .int .i64 0] rfl (by kernel_rfl) (by kernel_rfl) (by kernel_rfl)
      (OpenSpec.preRow_of_cond 8 hx (by kernel_rfl) (fun k hk => by cases hk) (by kernel_rfl) (laidMet_nil _ _))) ?_
  intro W base args ds gs before hval hW _ _ _ hL _ _
  exact craneLoads_contract H enc W base args ds gs before hval hW hL
theorem craneLoads_said : Rows.CraneLoadsSaid :=
  OpenClaim.holds_of_cond 4 Try.f4 rfl rfl rfl rfl rfl rfl rfl ⟨rfl, rfl, rfl, rfl, rfl⟩ rfl rfl rfl rfl rfl (by kernel_rfl) Try.func4 (by kernel_rfl)
    (of_decide_eq_true (by kernel_rfl)) (by unfold Func.isWrapper; rw [if_neg (of_decide_eq_false (by kernel_rfl))]; exact ⟨rfl, rfl⟩)
    (fun os started H enc _ F => by rw [OpenClaim.pre_eq_preRow]; exact craneLoads_lifted os started H enc F)
#print axioms craneLoads_said
end Go.Proofs.Ytmaopenmbngenaa
