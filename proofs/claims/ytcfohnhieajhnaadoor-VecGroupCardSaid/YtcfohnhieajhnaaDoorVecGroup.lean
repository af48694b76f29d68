/-
  The rotations are a group that acts on small vectors; Back undoes a rotation. Conditions: none (the card ties the variable probe to the program's text). By an AI agent.
-/
import Derived.Test.YtcfohnhieajhnaaDoorRow
import Derived.Test.YtcfohnhieajhnaaDoorLaws2
namespace Go.Proofs.YtcfohnhieajhnaaDoor
open Go.ChangeShapes Go.WideShapes Go.ChangeAt Go.RowKit
set_option linter.unusedSimpArgs false
set_option linter.unusedVariables false

set_option maxRecDepth 100000 in
set_option maxHeartbeats 1000000 in
theorem vecGroup_no (a b c x y z : Int) (w : World) (hp : ProbeIs w) (hs : ¬ InB 1099511627776 (x, y, z)) :
    Calls Tryd.prog 5 #[.agg #[.int .i64 a, .int .i64 b, .int .i64 c], .agg #[.int .i64 x, .int .i64 y, .int .i64 z]] w fun e w' => e = .returned (.bool true) ∧ Below w.heap.size w w' := by
  have hpc := past_cell
  have HP := Lib.hid hp
  clear hp
  go_enter Tryd.func5, Tryd.ntmps5
  go_wp2_with fail
  (go_at_call 18; refine (near_no _ _ _ _ _ small_ok hs).mono ?_; rintro e w1 ⟨rfl, hb⟩)
  have hB1 := below_step (w := w) (by first | assumption | go_grown) hb
  have hz1 := hb.size
  (try simp only [World.size_alloc, World.size_setCell] at hz1)
  have hz1a : w.heap.size < w1.heap.size := by omega
  have hz1b : w.heap.size + 1 < w1.heap.size := by omega
  obtain ⟨hc1, hf1⟩ := bcell hb
  clear hb hz1
  go_wp2_with fail
  (go_at_call 15; refine (awake_any _ (HP.out.below (by first | assumption | go_grown))).mono ?_; rintro e w2 ⟨rfl, hb2⟩; have hB2 := below_step (w := w) (by first | assumption | go_grown) hb2; clear hb2)
  go_wp2
  go_returns
  exact ⟨rfl, by first | assumption | go_grown⟩

set_option maxRecDepth 100000 in
set_option maxHeartbeats 2000000 in
theorem vecGroup_yes (a b c x y z : Int) (w : World) (hp : ProbeIs w) (hs : InB 1099511627776 (x, y, z)) :
    Calls Tryd.prog 5 #[.agg #[.int .i64 a, .int .i64 b, .int .i64 c], .agg #[.int .i64 x, .int .i64 y, .int .i64 z]] w fun e w' => e = .returned (.bool true) ∧ Below w.heap.size w w' := by
  have hk0 : decide (composeV a b < 0) = false := decide_eq_false (by have := compose_bd a b; omega)
  have hk1 : decide (23 < composeV a b) = false := decide_eq_false (by have := compose_bd a b; omega)
  have ha1 : (composeV (composeV a b) c != composeV a (composeV b c)) = false := by rw [compose_assoc]; simp
  have hb1 : (composeV a (backV a) == 0) = true := by rw [(compose_back a).1]; rfl
  have hb2 : (composeV (backV a) a == 0) = true := by rw [(compose_back a).2]; rfl
  have e1 : ∀ W, (binOp .neq 27 (.agg #[.int .i64 (turnF ((turnF (x, y, z) a).1, (turnF (x, y, z) a).2.1, (turnF (x, y, z) a).2.2) b).1, .int .i64 (turnF ((turnF (x, y, z) a).1, (turnF (x, y, z) a).2.1, (turnF (x, y, z) a).2.2) b).2.1, .int .i64 (turnF ((turnF (x, y, z) a).1, (turnF (x, y, z) a).2.1, (turnF (x, y, z) a).2.2) b).2.2]) (.agg #[.int .i64 (turnF (x, y, z) (composeV a b)).1, .int .i64 (turnF (x, y, z) (composeV a b)).2.1, .int .i64 (turnF (x, y, z) (composeV a b)).2.2])).run Tryd.prog W = .ok (.bool (!true)) W := fun W => by
    have h := neq_vec ((turnF ((turnF (x, y, z) a).1, (turnF (x, y, z) a).2.1, (turnF (x, y, z) a).2.2) b).1) ((turnF ((turnF (x, y, z) a).1, (turnF (x, y, z) a).2.1, (turnF (x, y, z) a).2.2) b).2.1) ((turnF ((turnF (x, y, z) a).1, (turnF (x, y, z) a).2.1, (turnF (x, y, z) a).2.2) b).2.2) ((turnF (x, y, z) (composeV a b)).1) ((turnF (x, y, z) (composeV a b)).2.1) ((turnF (x, y, z) (composeV a b)).2.2) W
    rw [decide_eq_true (show ((turnF ((turnF (x, y, z) a).1, (turnF (x, y, z) a).2.1, (turnF (x, y, z) a).2.2) b).1, (turnF ((turnF (x, y, z) a).1, (turnF (x, y, z) a).2.1, (turnF (x, y, z) a).2.2) b).2.1, (turnF ((turnF (x, y, z) a).1, (turnF (x, y, z) a).2.1, (turnF (x, y, z) a).2.2) b).2.2) = ((turnF (x, y, z) (composeV a b)).1, (turnF (x, y, z) (composeV a b)).2.1, (turnF (x, y, z) (composeV a b)).2.2) from group_turn a b hs)] at h
    exact h
  have e2 : ∀ W, (binOp .eql 27 (.agg #[.int .i64 (turnF ((turnF (x, y, z) a).1, (turnF (x, y, z) a).2.1, (turnF (x, y, z) a).2.2) (backV a)).1, .int .i64 (turnF ((turnF (x, y, z) a).1, (turnF (x, y, z) a).2.1, (turnF (x, y, z) a).2.2) (backV a)).2.1, .int .i64 (turnF ((turnF (x, y, z) a).1, (turnF (x, y, z) a).2.1, (turnF (x, y, z) a).2.2) (backV a)).2.2]) (.agg #[.int .i64 x, .int .i64 y, .int .i64 z])).run Tryd.prog W = .ok (.bool true) W := fun W => by
    have h := eql_vec ((turnF ((turnF (x, y, z) a).1, (turnF (x, y, z) a).2.1, (turnF (x, y, z) a).2.2) (backV a)).1) ((turnF ((turnF (x, y, z) a).1, (turnF (x, y, z) a).2.1, (turnF (x, y, z) a).2.2) (backV a)).2.1) ((turnF ((turnF (x, y, z) a).1, (turnF (x, y, z) a).2.1, (turnF (x, y, z) a).2.2) (backV a)).2.2) (x) (y) (z) W
    rw [decide_eq_true (show ((turnF ((turnF (x, y, z) a).1, (turnF (x, y, z) a).2.1, (turnF (x, y, z) a).2.2) (backV a)).1, (turnF ((turnF (x, y, z) a).1, (turnF (x, y, z) a).2.1, (turnF (x, y, z) a).2.2) (backV a)).2.1, (turnF ((turnF (x, y, z) a).1, (turnF (x, y, z) a).2.1, (turnF (x, y, z) a).2.2) (backV a)).2.2) = (x, y, z) from group_back a hs)] at h
    exact h
  simp only [Bool.not_true] at e1
  have hpc := past_cell
  have HP := Lib.hid hp
  clear hp
  go_enter Tryd.func5, Tryd.ntmps5
  go_wp2_with fail
  (go_at_call 18; refine (near_yes _ _ _ _ _ small_ok hs).mono ?_; rintro e w1 ⟨rfl, hb⟩)
  have hB1 := below_step (w := w) (by first | assumption | go_grown) hb
  have hz1 := hb.size
  (try simp only [World.size_alloc, World.size_setCell] at hz1)
  have hz1a : w.heap.size < w1.heap.size := by omega
  have hz1b : w.heap.size + 1 < w1.heap.size := by omega
  obtain ⟨hc1, hf1⟩ := bcell hb
  clear hb hz1
  go_wp2_with fail
  refine wp_region_past (by kernel_rfl) (by kernel_rfl) ?_
  iterate 9 go_big_quiet_step (fail)
  refine wpQuiet_nil ?_
  intro w2 hw'
  have hb := past_out hw'
  clear hw'
  have hB2 := below_step (w := w) (by first | assumption | go_grown) hb
  have hz2 := hb.size
  (try simp only [World.size_alloc, World.size_setCell] at hz2)
  have hz2a : w.heap.size < w2.heap.size := by omega
  have hz2b : w.heap.size + 1 < w2.heap.size := by omega
  obtain ⟨hc2, hf2⟩ := bcell hb
  clear hb hz2
  go_wp2_with fail
  (go_at_call 11; refine (Compose_any _ _ _ (HP.out.below (by first | assumption | go_grown))).mono ?_; rintro e w3 ⟨rfl, hb⟩)
  have hB3 := below_step (w := w) (by first | assumption | go_grown) hb
  have hz3 := hb.size
  (try simp only [World.size_alloc, World.size_setCell] at hz3)
  have hz3a : w.heap.size < w3.heap.size := by omega
  have hz3b : w.heap.size + 1 < w3.heap.size := by omega
  obtain ⟨hc3, hf3⟩ := bcell hb
  clear hb hz3
  go_wp2_with fail
  refine wp_region_past (by kernel_rfl) (by kernel_rfl) ?_
  iterate 9 go_big_quiet_step (fail)
  go_big_quiet_step ((go_at_call 19; exact past_of (Turn_any _ _ _ _ _)))
  iterate 1 go_big_quiet_step (fail)
  go_big_quiet_step ((go_at_call 19; exact past_of (Turn_any _ _ _ _ _)))
  iterate 2 go_big_quiet_step (fail)
  go_big_quiet_step ((go_at_call 19; exact past_of (Turn_any _ _ _ _ _)))
  iterate 5 go_big_quiet_step (fail)
  go_big_quiet_step ((go_at_call 11; exact past_of (Compose_any _ _ _ ((HP.out.below (by first | assumption | go_grown)).below (Past.h _)))))
  iterate 3 go_big_quiet_step (fail)
  go_big_quiet_step ((go_at_call 11; exact past_of (Compose_any _ _ _ ((HP.out.below (by first | assumption | go_grown)).below (Past.h _)))))
  go_big_quiet_step ((go_at_call 11; exact past_of (Compose_any _ _ _ ((HP.out.below (by first | assumption | go_grown)).below (Past.h _)))))
  iterate 2 go_big_quiet_step (fail)
  refine wpQuiet_nil ?_
  intro w4 hw'
  have hb := past_out hw'
  clear hw'
  have hB4 := below_step (w := w) (by first | assumption | go_grown) hb
  have hz4 := hb.size
  (try simp only [World.size_alloc, World.size_setCell] at hz4)
  have hz4a : w.heap.size < w4.heap.size := by omega
  have hz4b : w.heap.size + 1 < w4.heap.size := by omega
  obtain ⟨hc4, hf4⟩ := bcell hb
  clear hb hz4
  go_wp2_with fail
  refine wp_region_past (by kernel_rfl) (by kernel_rfl) ?_
  iterate 2 go_big_quiet_step (fail)
  go_big_quiet_step ((go_at_call 13; exact past_of (Back_any _ _ ((HP.out.below (by first | assumption | go_grown)).below (Past.h _)))))
  go_big_quiet_step ((go_at_call 11; exact past_of (Compose_any _ _ _ ((HP.out.below (by first | assumption | go_grown)).below (Past.h _)))))
  iterate 3 go_big_quiet_step (fail)
  go_big_quiet_step ((go_at_call 13; exact past_of (Back_any _ _ ((HP.out.below (by first | assumption | go_grown)).below (Past.h _)))))
  iterate 1 go_big_quiet_step (fail)
  go_big_quiet_step ((go_at_call 11; exact past_of (Compose_any _ _ _ ((HP.out.below (by first | assumption | go_grown)).below (Past.h _)))))
  iterate 5 go_big_quiet_step (fail)
  go_big_quiet_step ((go_at_call 19; exact past_of (Turn_any _ _ _ _ _)))
  iterate 1 go_big_quiet_step (fail)
  go_big_quiet_step ((go_at_call 13; exact past_of (Back_any _ _ ((HP.out.below (by first | assumption | go_grown)).below (Past.h _)))))
  go_big_quiet_step ((go_at_call 19; exact past_of (Turn_any _ _ _ _ _)))
  iterate 4 go_big_quiet_step (fail)
  go_big_quiet_step ((go_at_call 15; exact past_of (awake_any _ ((HP.out.below (by first | assumption | go_grown)).below (Past.h _)))))
  iterate 2 go_big_quiet_step (fail)
  refine wpQuiet_nil ?_
  intro w5 hw'
  have hb := past_out hw'
  clear hw'
  have hB5 := below_step (w := w) (by first | assumption | go_grown) hb
  clear hb
  go_wp2
  go_returns
  exact ⟨rfl, by first | assumption | go_grown⟩

set_option maxRecDepth 100000 in
set_option maxHeartbeats 1000000 in
theorem vecGroup_walk (a b c x y z : Int) (w : World) (hp : ProbeIs w) :
    Calls Tryd.prog 5 #[.agg #[.int .i64 a, .int .i64 b, .int .i64 c], .agg #[.int .i64 x, .int .i64 y, .int .i64 z]] w fun e w' => e = .returned (.bool true) ∧ Below w.heap.size w w' := by
  by_cases hs : InB 1099511627776 (x, y, z)
  · exact vecGroup_yes a b c x y z w hp hs
  · exact vecGroup_no a b c x y z w hp hs

set_option maxRecDepth 100000 in
theorem vecGroup_contract (H : Type) (enc : TypeId × Value → H) (W : World) (base : Nat) (args : Array Value) (ds gs : List (DataW H)) (before : List MemPlace)
    (hval : ∀ (j : Nat) t v, Tryd.f5.params[j]? = some t → args[j]? = some v → Value.okWide Tryd.prog W .any base t v)
    (hW : DataW.Whole enc Tryd.prog Tryd.f5.params.toList Rows.vecGroupSpec.vars false W args.toList ds gs before) (hL : laidMetH Tryd.prog Rows.vecGroupRow.laid W) :
    Calls Tryd.prog 5 args W fun e W' => ∃ v, e = .returned v ∧ Rows.vecGroupSpec.post enc Tryd.prog Tryd.f5 false true false false W args v W' := by
  have hW' := hW
  obtain ⟨p, q, hA0, hV, rfl, hfz, hnd⟩ := hW
  have hA : DataW.TrodAll enc Tryd.prog W 0 (fun _ => true) true Tryd.f5.params.toList args.toList ds p := hA0
  rw [Tryd.params5] at hA hval
  obtain ⟨v0, vs0, d0, ds0, p0, q0, hargs, rfl, rfl, h0, r0⟩ := trodAll_cons hA
  obtain ⟨v1, vs1, d1, ds1, p1, q1, rfl, rfl, rfl, h1, r1⟩ := trodAll_cons r0
  obtain ⟨rfl, rfl, rfl⟩ := trodAll_nil r1
  obtain rfl : args = #[v0, v1] := by cases args; simp_all
  obtain ⟨zs0, rfl, hl0, hb0⟩ := flat_open (n := 8) (fs := Tryd.prog.fieldsOf 34) (by kernel_rfl) (by kernel_rfl) (by kernel_rfl) (hval 0 34 v0 rfl rfl) h0
  obtain ⟨a, b, c, rfl⟩ := list3 hl0
  obtain ⟨zs1, rfl, hl1, hb1⟩ := flat_open (n := 8) (fs := Tryd.prog.fieldsOf 27) (by kernel_rfl) (by kernel_rfl) (by kernel_rfl) (hval 1 27 v1 rfl rfl) h1
  obtain ⟨x, y, z, rfl⟩ := list3 hl1
  refine (vecGroup_walk a b c x y z W (probe_of_laid hL)).mono fun e W' ⟨he, hb⟩ => ?_
  subst he
  exact ⟨_, rfl, law_post laidOut (by kernel_rfl) (by kernel_rfl) Tryd.underlying4 rfl hW' (fun _ => rfl) hb⟩
theorem vecGroup_laid (os : Os) : laidMet Tryd.prog Rows.vecGroupRow.laid ((laidWorld os).forCall (fun _ _ => 0) ⟨#[], #[.agg #[.int .i64 0, .int .i64 0, .int .i64 0], .agg #[.int .i64 0, .int .i64 0, .int .i64 0]], []⟩).memory := laidMet_of_run' 8 (by kernel_rfl) (by kernel_rfl)
theorem vecGroup_reads (os : Os) {H : Type} (enc : TypeId × Value → H) : ∃ places, DataW.whole enc Tryd.prog ((laidWorld os).forCall (fun _ _ => 0) ⟨#[], #[.agg #[.int .i64 0, .int .i64 0, .int .i64 0], .agg #[.int .i64 0, .int .i64 0, .int .i64 0]], []⟩).memory Tryd.f5.params.toList Rows.vecGroupSpec.vars false (#[.agg #[.int .i64 0, .int .i64 0, .int .i64 0], .agg #[.int .i64 0, .int .i64 0, .int .i64 0]] : Array Value).toList 8 = some ([.agg [.lit (.int .i64 0), .lit (.int .i64 0), .lit (.int .i64 0)], .agg [.lit (.int .i64 0), .lit (.int .i64 0), .lit (.int .i64 0)]], [], places) := ⟨[], by kernel_rfl⟩
set_option maxRecDepth 100000 in
theorem vecGroup_lifted (os : Os) (started : os.Started) (H : Type) (enc : TypeId × Value → H) (F : Stop.Interp) :
    ReturnsInHanded {} Tryd.checked os 5 .any ((OpenSpec.ofChange Rows.vecGroupSpec).preRow enc Tryd.prog Tryd.f5 Rows.vecGroupRow.domain false Rows.vecGroupRow.laid) (((OpenSpec.ofChange Rows.vecGroupSpec).at F).post enc Tryd.prog Tryd.f5 false true false false) := by
  obtain ⟨places, hx⟩ := vecGroup_reads os enc
  refine returnsInHanded_of_row (C := Tryd.checked) (s := OpenSpec.ofChange Rows.vecGroupSpec) own started (by kernel_rfl) Tryd.func5
    (witness_row_at (enc := enc) (C := Tryd.checked) false (laidWorld os) #[.agg #[.int .i64 0, .int .i64 0, .int .i64 0], .agg #[.int .i64 0, .int .i64 0, .int .i64 0]] rfl (by kernel_rfl) (by kernel_rfl) (by kernel_rfl)
      (OpenSpec.preRow_of_cond 8 hx (by kernel_rfl) (fun k hk => by cases hk) (by kernel_rfl) (vecGroup_laid os))) ?_
  intro W base args ds gs before hval hW _ _ _ hL _ _
  exact vecGroup_contract H enc W base args ds gs before hval hW hL
theorem vecGroup_said : Rows.VecGroupSaid :=
  OpenClaim.holds_of_cond 5 Tryd.f5 rfl rfl rfl rfl rfl rfl rfl ⟨rfl, rfl, rfl, rfl, rfl⟩ rfl rfl rfl rfl rfl (by kernel_rfl) Tryd.func5 (by kernel_rfl)
    (of_decide_eq_true (by kernel_rfl)) (by unfold Func.isWrapper; rw [if_neg (of_decide_eq_false (by kernel_rfl))]; exact ⟨rfl, rfl⟩)
    (fun os started H enc _ F => by rw [OpenClaim.pre_eq_preRow]; exact vecGroup_lifted os started H enc F)
theorem vecGroup_plain (f : FuncId) (fn : Func) (hf : Tryd.pinned.checked.prog.funcNamed "shipyard/shipyardlaw11.VecGroup" = some f) (hfn : Tryd.pinned.checked.prog.funcs[f]? = some fn) :
    false = Tryd.pinned.checked.prog.looks [] ∧ ∀ (j : Nat) t, fn.params[j]? = some t → Tryd.pinned.checked.prog.wantsStandIn t = false := by
  obtain rfl : f = 5 := Option.some.inj ((show Tryd.prog.funcNamed "shipyard/shipyardlaw11.VecGroup" = some 5 by kernel_rfl).symm.trans hf) |>.symm
  obtain rfl : fn = Tryd.f5 := (Option.some.inj (Tryd.func5.symm.trans hfn)).symm
  refine ⟨by kernel_rfl, fun j t ht => ?_⟩
  rw [Tryd.params5] at ht
  have hm : t ∈ [34, 27] := by simpa using Array.mem_of_getElem? ht
  have hall : ([34, 27].all fun u => !Tryd.prog.wantsStandIn u) = true := by kernel_rfl
  exact (show Tryd.prog.wantsStandIn t = false by simpa using List.all_eq_true.1 hall t hm)
/-- the card -/
theorem vecGroup_card : Rows.VecGroupCardSaid :=
  Claim7.holds_tied_plain_at .later [] _ _ _ _ vecGroup_said (fun _ h => by cases h) (by kernel_rfl) (fun _ h => by cases h) vecGroup_row_tie rfl ⟨rfl, rfl⟩ (by kernel_rfl) rfl vecGroup_plain (by kernel_rfl)
#print axioms vecGroup_card
end Go.Proofs.YtcfohnhieajhnaaDoor
