/-
  Add, Sub and Turn return what the reference returns, for any vectors and number. Conditions: none (the card ties the variable probe to the program's text). By an AI agent.
-/
import Derived.Test.YtcfohnhieajhnaaDoorRow
namespace Go.Proofs.YtcfohnhieajhnaaDoor
open Go.ChangeShapes Go.WideShapes Go.ChangeAt Go.RowKit
set_option linter.unusedSimpArgs false
set_option linter.unusedVariables false

set_option maxRecDepth 100000 in
set_option maxHeartbeats 1000000 in
theorem vecTurns_walk (a b c x y z k : Int) (w : World) (hp : ProbeIs w) :
    Calls Tryd.prog 10 #[.agg #[.int .i64 a, .int .i64 b, .int .i64 c], .agg #[.int .i64 x, .int .i64 y, .int .i64 z], .int .i64 k] w fun e w' => e = .returned (.bool true) ∧ Below w.heap.size w w' := by
  have hpc := past_cell
  have HP := Lib.hid hp
  clear hp
  go_enter Tryd.func10, Tryd.ntmps10
  go_wp2_with fail
  refine wp_region_past (by kernel_rfl) (by kernel_rfl) ?_
  iterate 2 go_big_quiet_step (fail)
  go_big_quiet_step ((go_at_call 31; exact past_of (Add_any _ _ _ _ _ _ _)))
  iterate 2 go_big_quiet_step (fail)
  go_big_quiet_step ((go_at_call 32; exact past_of (rAdd_any _ _ _ _ _ _ _)))
  iterate 4 go_big_quiet_step (fail)
  go_big_quiet_step ((go_at_call 33; exact past_of (Sub_any _ _ _ _ _ _ _)))
  iterate 2 go_big_quiet_step (fail)
  go_big_quiet_step ((go_at_call 34; exact past_of (rSub_any _ _ _ _ _ _ _)))
  iterate 5 go_big_quiet_step (fail)
  go_big_quiet_step ((go_at_call 19; exact past_of (Turn_any _ _ _ _ _)))
  iterate 2 go_big_quiet_step (fail)
  go_big_quiet_step ((go_at_call 35; exact past_of (rTurn_any _ _ _ _ _)))
  iterate 3 go_big_quiet_step (fail)
  go_big_quiet_step ((go_at_call 15; exact past_of (awake_any _ ((HP.out.below (by first | assumption | go_grown)).below (Past.h _)))))
  iterate 2 go_big_quiet_step (fail)
  refine wpQuiet_nil ?_
  intro w1 hw'
  have hb := past_out hw'
  clear hw'
  have hB1 := below_step (w := w) (by first | assumption | go_grown) hb
  clear hb
  go_wp2
  go_returns
  exact ⟨rfl, by first | assumption | go_grown⟩

set_option maxRecDepth 100000 in
theorem vecTurns_contract (H : Type) (enc : TypeId × Value → H) (W : World) (base : Nat) (args : Array Value) (ds gs : List (DataW H)) (before : List MemPlace)
    (hval : ∀ (j : Nat) t v, Tryd.f10.params[j]? = some t → args[j]? = some v → Value.okWide Tryd.prog W .any base t v)
    (hW : DataW.Whole enc Tryd.prog Tryd.f10.params.toList Rows.vecTurnsSpec.vars false W args.toList ds gs before) (hL : laidMetH Tryd.prog Rows.vecTurnsRow.laid W) :
    Calls Tryd.prog 10 args W fun e W' => ∃ v, e = .returned v ∧ Rows.vecTurnsSpec.post enc Tryd.prog Tryd.f10 false true false false W args v W' := by
  have hW' := hW
  obtain ⟨p, q, hA0, hV, rfl, hfz, hnd⟩ := hW
  have hA : DataW.TrodAll enc Tryd.prog W 0 (fun _ => true) true Tryd.f10.params.toList args.toList ds p := hA0
  rw [Tryd.params10] at hA hval
  obtain ⟨v0, vs0, d0, ds0, p0, q0, hargs, rfl, rfl, h0, r0⟩ := trodAll_cons hA
  obtain ⟨v1, vs1, d1, ds1, p1, q1, rfl, rfl, rfl, h1, r1⟩ := trodAll_cons r0
  obtain ⟨v2, vs2, d2, ds2, p2, q2, rfl, rfl, rfl, h2, r2⟩ := trodAll_cons r1
  obtain ⟨rfl, rfl, rfl⟩ := trodAll_nil r2
  obtain rfl : args = #[v0, v1, v2] := by cases args; simp_all
  obtain ⟨zs0, rfl, hl0, hb0⟩ := flat_open (n := 8) (fs := Tryd.prog.fieldsOf 27) (by kernel_rfl) (by kernel_rfl) (by kernel_rfl) (hval 0 27 v0 rfl rfl) h0
  obtain ⟨a, b, c, rfl⟩ := list3 hl0
  obtain ⟨zs1, rfl, hl1, hb1⟩ := flat_open (n := 8) (fs := Tryd.prog.fieldsOf 27) (by kernel_rfl) (by kernel_rfl) (by kernel_rfl) (hval 1 27 v1 rfl rfl) h1
  obtain ⟨x, y, z, rfl⟩ := list3 hl1
  obtain ⟨k, rfl, rfl, rfl, _w2⟩ := open_int Tryd.underlying3 (hval 2 3 v2 rfl rfl) h2
  refine (vecTurns_walk a b c x y z k W (probe_of_laid hL)).mono fun e W' ⟨he, hb⟩ => ?_
  subst he
  exact ⟨_, rfl, law_post laidOut (by kernel_rfl) (by kernel_rfl) Tryd.underlying4 rfl hW' (fun _ => rfl) hb⟩
theorem vecTurns_laid (os : Os) : laidMet Tryd.prog Rows.vecTurnsRow.laid ((laidWorld os).forCall (fun _ _ => 0) ⟨#[], #[.agg #[.int .i64 0, .int .i64 0, .int .i64 0], .agg #[.int .i64 0, .int .i64 0, .int .i64 0], .int .i64 0], []⟩).memory := laidMet_of_run' 8 (by kernel_rfl) (by kernel_rfl)
theorem vecTurns_reads (os : Os) {H : Type} (enc : TypeId × Value → H) : ∃ places, DataW.whole enc Tryd.prog ((laidWorld os).forCall (fun _ _ => 0) ⟨#[], #[.agg #[.int .i64 0, .int .i64 0, .int .i64 0], .agg #[.int .i64 0, .int .i64 0, .int .i64 0], .int .i64 0], []⟩).memory Tryd.f10.params.toList Rows.vecTurnsSpec.vars false (#[.agg #[.int .i64 0, .int .i64 0, .int .i64 0], .agg #[.int .i64 0, .int .i64 0, .int .i64 0], .int .i64 0] : Array Value).toList 8 = some ([.agg [.lit (.int .i64 0), .lit (.int .i64 0), .lit (.int .i64 0)], .agg [.lit (.int .i64 0), .lit (.int .i64 0), .lit (.int .i64 0)], .lit (.int .i64 0)], [], places) := ⟨[], by kernel_rfl⟩
set_option maxRecDepth 100000 in
theorem vecTurns_lifted (os : Os) (started : os.Started) (H : Type) (enc : TypeId × Value → H) (F : Stop.Interp) :
    ReturnsInHanded {} Tryd.checked os 10 .any ((OpenSpec.ofChange Rows.vecTurnsSpec).preRow enc Tryd.prog Tryd.f10 Rows.vecTurnsRow.domain false Rows.vecTurnsRow.laid) (((OpenSpec.ofChange Rows.vecTurnsSpec).at F).post enc Tryd.prog Tryd.f10 false true false false) := by
  obtain ⟨places, hx⟩ := vecTurns_reads os enc
  refine returnsInHanded_of_row (C := Tryd.checked) (s := OpenSpec.ofChange Rows.vecTurnsSpec) own started (by kernel_rfl) Tryd.func10
    (witness_row_at (enc := enc) (C := Tryd.checked) false (laidWorld os) #[.agg #[.int .i64 0, .int .i64 0, .int .i64 0], .agg #[.int .i64 0, .int .i64 0, .int .i64 0], .int .i64 0] rfl (by kernel_rfl) (by kernel_rfl) (by kernel_rfl)
      (OpenSpec.preRow_of_cond 8 hx (by kernel_rfl) (fun k hk => by cases hk) (by kernel_rfl) (vecTurns_laid os))) ?_
  intro W base args ds gs before hval hW _ _ _ hL _ _
  exact vecTurns_contract H enc W base args ds gs before hval hW hL
theorem vecTurns_said : Rows.VecTurnsSaid :=
  OpenClaim.holds_of_cond 10 Tryd.f10 rfl rfl rfl rfl rfl rfl rfl ⟨rfl, rfl, rfl, rfl, rfl⟩ rfl rfl rfl rfl rfl (by kernel_rfl) Tryd.func10 (by kernel_rfl)
    (of_decide_eq_true (by kernel_rfl)) (by unfold Func.isWrapper; rw [if_neg (of_decide_eq_false (by kernel_rfl))]; exact ⟨rfl, rfl⟩)
    (fun os started H enc _ F => by rw [OpenClaim.pre_eq_preRow]; exact vecTurns_lifted os started H enc F)
theorem vecTurns_plain (f : FuncId) (fn : Func) (hf : Tryd.pinned.checked.prog.funcNamed "shipyard/shipyardlaw11.VecTurns" = some f) (hfn : Tryd.pinned.checked.prog.funcs[f]? = some fn) :
    false = Tryd.pinned.checked.prog.looks [] ∧ ∀ (j : Nat) t, fn.params[j]? = some t → Tryd.pinned.checked.prog.wantsStandIn t = false := by
  obtain rfl : f = 10 := Option.some.inj ((show Tryd.prog.funcNamed "shipyard/shipyardlaw11.VecTurns" = some 10 by kernel_rfl).symm.trans hf) |>.symm
  obtain rfl : fn = Tryd.f10 := (Option.some.inj (Tryd.func10.symm.trans hfn)).symm
  refine ⟨by kernel_rfl, fun j t ht => ?_⟩
  rw [Tryd.params10] at ht
  have hm : t ∈ [27, 27, 3] := by simpa using Array.mem_of_getElem? ht
  have hall : ([27, 27, 3].all fun u => !Tryd.prog.wantsStandIn u) = true := by kernel_rfl
  exact (show Tryd.prog.wantsStandIn t = false by simpa using List.all_eq_true.1 hall t hm)
/-- the card -/
theorem vecTurns_card : Rows.VecTurnsCardSaid :=
  Claim7.holds_tied_plain_at .later [] _ _ _ _ vecTurns_said (fun _ h => by cases h) (by kernel_rfl) (fun _ h => by cases h) vecTurns_row_tie rfl ⟨rfl, rfl⟩ (by kernel_rfl) rfl vecTurns_plain (by kernel_rfl)
#print axioms vecTurns_card
end Go.Proofs.YtcfohnhieajhnaaDoor
