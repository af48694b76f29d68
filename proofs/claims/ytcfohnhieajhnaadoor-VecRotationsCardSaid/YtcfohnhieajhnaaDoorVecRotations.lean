/-
  Compose and Back return what the reference returns, for any numbers. Conditions: none (the card ties the variable probe to the program's text). By an AI agent.
-/
import Derived.Test.YtcfohnhieajhnaaDoorRow
namespace Go.Proofs.YtcfohnhieajhnaaDoor
open Go.ChangeShapes Go.WideShapes Go.ChangeAt Go.RowKit
set_option linter.unusedSimpArgs false
set_option linter.unusedVariables false

set_option maxRecDepth 100000 in
set_option maxHeartbeats 1000000 in
theorem vecRotations_walk (a b : Int) (w : World) (hp : ProbeIs w) :
    Calls Tryd.prog 3 #[.int .i64 a, .int .i64 b] w fun e w' => e = .returned (.bool true) ∧ Below w.heap.size w w' := by
  have HP := Lib.hid hp
  clear hp
  go_enter Tryd.func3, Tryd.ntmps3
  go_wp2_with fail
  (go_at_call 11; refine (Compose_any _ _ _ HP.out).mono ?_; rintro e w1 ⟨rfl, hb1⟩; have hB1 := below_step (w := w) (by first | assumption | go_grown) hb1; clear hb1)
  go_wp2_with fail
  (go_at_call 12; refine (rCompose_any _ _ _).mono ?_; rintro e w2 ⟨rfl, hb2⟩; have hB2 := below_step (w := w) (by first | assumption | go_grown) hb2; clear hb2)
  go_wp2_with fail
  (go_at_call 13; refine (Back_any _ _ (HP.out.below hB2)).mono ?_; rintro e w3 ⟨rfl, hb3⟩; have hB3 := below_step (w := w) (by first | assumption | go_grown) hb3; clear hb3)
  go_wp2_with fail
  (go_at_call 14; refine (rBack_any _ _).mono ?_; rintro e w4 ⟨rfl, hb4⟩; have hB4 := below_step (w := w) (by first | assumption | go_grown) hb4; clear hb4)
  go_wp2_with fail
  (go_at_call 15; refine (awake_any _ (HP.out.below hB4)).mono ?_; rintro e w5 ⟨rfl, hb5⟩; have hB5 := below_step (w := w) (by first | assumption | go_grown) hb5; clear hb5)
  go_wp2
  go_returns
  exact ⟨rfl, by assumption⟩

set_option maxRecDepth 100000 in
theorem vecRotations_contract (H : Type) (enc : TypeId × Value → H) (W : World) (base : Nat) (args : Array Value) (ds gs : List (DataW H)) (before : List MemPlace)
    (hval : ∀ (j : Nat) t v, Tryd.f3.params[j]? = some t → args[j]? = some v → Value.okWide Tryd.prog W .any base t v)
    (hW : DataW.Whole enc Tryd.prog Tryd.f3.params.toList Rows.vecRotationsSpec.vars false W args.toList ds gs before) (hL : laidMetH Tryd.prog Rows.vecRotationsRow.laid W) :
    Calls Tryd.prog 3 args W fun e W' => ∃ v, e = .returned v ∧ Rows.vecRotationsSpec.post enc Tryd.prog Tryd.f3 false true false false W args v W' := by
  have hW' := hW
  obtain ⟨p, q, hA0, hV, rfl, hfz, hnd⟩ := hW
  have hA : DataW.TrodAll enc Tryd.prog W 0 (fun _ => true) true Tryd.f3.params.toList args.toList ds p := hA0
  rw [Tryd.params3] at hA hval
  obtain ⟨v0, vs0, d0, ds0, p0, q0, hargs, rfl, rfl, h0, r0⟩ := trodAll_cons hA
  obtain ⟨v1, vs1, d1, ds1, p1, q1, rfl, rfl, rfl, h1, r1⟩ := trodAll_cons r0
  obtain ⟨rfl, rfl, rfl⟩ := trodAll_nil r1
  obtain rfl : args = #[v0, v1] := by cases args; simp_all
  obtain ⟨a, rfl, rfl, rfl, _w0⟩ := open_int Tryd.underlying3 (hval 0 3 v0 rfl rfl) h0
  obtain ⟨b, rfl, rfl, rfl, _w1⟩ := open_int Tryd.underlying3 (hval 1 3 v1 rfl rfl) h1
  refine (vecRotations_walk a b W (probe_of_laid hL)).mono fun e W' ⟨he, hb⟩ => ?_
  subst he
  exact ⟨_, rfl, law_post laidOut (by kernel_rfl) (by kernel_rfl) Tryd.underlying4 rfl hW' (fun _ => rfl) hb⟩
theorem vecRotations_laid (os : Os) : laidMet Tryd.prog Rows.vecRotationsRow.laid ((laidWorld os).forCall (fun _ _ => 0) ⟨#[], #[.int .i64 0, .int .i64 0], []⟩).memory := laidMet_of_run' 8 (by kernel_rfl) (by kernel_rfl)
theorem vecRotations_reads (os : Os) {H : Type} (enc : TypeId × Value → H) : ∃ places, DataW.whole enc Tryd.prog ((laidWorld os).forCall (fun _ _ => 0) ⟨#[], #[.int .i64 0, .int .i64 0], []⟩).memory Tryd.f3.params.toList Rows.vecRotationsSpec.vars false (#[.int .i64 0, .int .i64 0] : Array Value).toList 8 = some ([.lit (.int .i64 0), .lit (.int .i64 0)], [], places) := ⟨[], by kernel_rfl⟩
set_option maxRecDepth 100000 in
theorem vecRotations_lifted (os : Os) (started : os.Started) (H : Type) (enc : TypeId × Value → H) (F : Stop.Interp) :
    ReturnsInHanded {} Tryd.checked os 3 .any ((OpenSpec.ofChange Rows.vecRotationsSpec).preRow enc Tryd.prog Tryd.f3 Rows.vecRotationsRow.domain false Rows.vecRotationsRow.laid) (((OpenSpec.ofChange Rows.vecRotationsSpec).at F).post enc Tryd.prog Tryd.f3 false true false false) := by
  obtain ⟨places, hx⟩ := vecRotations_reads os enc
  refine returnsInHanded_of_row (C := Tryd.checked) (s := OpenSpec.ofChange Rows.vecRotationsSpec) own started (by kernel_rfl) Tryd.func3
    (witness_row_at (enc := enc) (C := Tryd.checked) false (laidWorld os) #[.int .i64 0, .int .i64 0] rfl (by kernel_rfl) (by kernel_rfl) (by kernel_rfl)
      (OpenSpec.preRow_of_cond 8 hx (by kernel_rfl) (fun k hk => by cases hk) (by kernel_rfl) (vecRotations_laid os))) ?_
  intro W base args ds gs before hval hW _ _ _ hL _ _
  exact vecRotations_contract H enc W base args ds gs before hval hW hL
theorem vecRotations_said : Rows.VecRotationsSaid :=
  OpenClaim.holds_of_cond 3 Tryd.f3 rfl rfl rfl rfl rfl rfl rfl ⟨rfl, rfl, rfl, rfl, rfl⟩ rfl rfl rfl rfl rfl (by kernel_rfl) Tryd.func3 (by kernel_rfl)
    (of_decide_eq_true (by kernel_rfl)) (by unfold Func.isWrapper; rw [if_neg (of_decide_eq_false (by kernel_rfl))]; exact ⟨rfl, rfl⟩)
    (fun os started H enc _ F => by rw [OpenClaim.pre_eq_preRow]; exact vecRotations_lifted os started H enc F)
theorem vecRotations_plain (f : FuncId) (fn : Func) (hf : Tryd.pinned.checked.prog.funcNamed "shipyard/shipyardlaw11.VecRotations" = some f) (hfn : Tryd.pinned.checked.prog.funcs[f]? = some fn) :
    false = Tryd.pinned.checked.prog.looks [] ∧ ∀ (j : Nat) t, fn.params[j]? = some t → Tryd.pinned.checked.prog.wantsStandIn t = false := by
  obtain rfl : f = 3 := Option.some.inj ((show Tryd.prog.funcNamed "shipyard/shipyardlaw11.VecRotations" = some 3 by kernel_rfl).symm.trans hf) |>.symm
  obtain rfl : fn = Tryd.f3 := (Option.some.inj (Tryd.func3.symm.trans hfn)).symm
  refine ⟨by kernel_rfl, fun j t ht => ?_⟩
  rw [Tryd.params3] at ht
  have hm : t ∈ [3, 3] := by simpa using Array.mem_of_getElem? ht
  have hall : ([3, 3].all fun u => !Tryd.prog.wantsStandIn u) = true := by kernel_rfl
  exact (show Tryd.prog.wantsStandIn t = false by simpa using List.all_eq_true.1 hall t hm)
/-- the card -/
theorem vecRotations_card : Rows.VecRotationsCardSaid :=
  Claim7.holds_tied_plain_at .later [] _ _ _ _ vecRotations_said (fun _ h => by cases h) (by kernel_rfl) (fun _ h => by cases h) vecRotations_row_tie rfl ⟨rfl, rfl⟩ (by kernel_rfl) rfl vecRotations_plain (by kernel_rfl)
#print axioms vecRotations_card
end Go.Proofs.YtcfohnhieajhnaaDoor
