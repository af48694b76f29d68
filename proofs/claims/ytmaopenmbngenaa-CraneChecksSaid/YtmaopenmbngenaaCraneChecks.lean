/-
  The law CraneChecks. Conditions: none. By an AI agent.
-/
import Derived.Test.YtmaopenmbngenaaCraneN
import Derived.Test.YtmaopenmbngenaaRows
namespace Go.Proofs.Ytmaopenmbngenaa
open Go Go.ChangeShapes Go.WideShapes Go.RowKit Go.ChangeAt
set_option linter.unusedSimpArgs false
set_option linter.unusedVariables false

set_option maxRecDepth 20000 in
set_option maxHeartbeats 4000000 in
theorem craneChecks_walk (v : Value) (n : Nat) (nm : Nat → ByteArray) (cv : Nat → Value) (rn : Nat → Nat) (r q : Nat → Nat → Int) (w : World) (h : CranesAt w v n nm cv rn r q) : Calls Try.prog 3 #[v] w fun e w' => e = .returned (.bool true) ∧ Below w.heap.size w w' := by
  have HC := Lib.hid h
  clear h
  obtain ⟨F, hF⟩ : ∃ F, fewB n nm rn = F := ⟨_, rfl⟩
  obtain ⟨C, hC⟩ : ∃ C, checkF n nm rn r q = C := ⟨_, rfl⟩
  have HF := Lib.hid hF
  have HCC := Lib.hid hC
  clear hF hC
  cases F
  · go_enter Try.func3, Try.ntmps3
    go_wp2_with fail
    (go_at_call 9; refine (few_any _ _ _ _ _ _ _ _ HC.out).mono ?_; rintro e w1 ⟨rfl, hb1⟩)
    rw [HF.out]
    have HB1 : Hid (Below w.heap.size w w1) := hb1
    clear hb1
    go_wp2_with fail
    (go_at_call 12; refine (alive_any _).mono ?_; rintro e w2 ⟨rfl, hb1⟩)
    have HB2 : Hid (Below w.heap.size w w2) := below_step HB1.out hb1
    clear hb1
    go_wp2
    go_returns
    exact ⟨rfl, HB2.out⟩
  · go_enter Try.func3, Try.ntmps3
    go_wp2_with fail
    (go_at_call 9; refine (few_any _ _ _ _ _ _ _ _ HC.out).mono ?_; rintro e w1 ⟨rfl, hb1⟩)
    rw [HF.out]
    have HB1 : Hid (Below w.heap.size w w1) := hb1
    clear hb1
    go_wp2_with fail
    (go_at_call 10; refine (check_any _ _ _ _ _ _ _ _ (HC.out.below HB1.out)).mono ?_; rintro e w2 ⟨rfl, hb1⟩)
    rw [HCC.out]
    have HB2 : Hid (Below w.heap.size w w2) := below_step HB1.out hb1
    clear hb1
    go_wp2_with fail
    (go_at_call 11; refine (rcheck_any _ _ _ _ _ _ _ _ (HC.out.below HB2.out)).mono ?_; rintro e w3 ⟨rfl, hb1⟩)
    rw [HCC.out]
    have HB3 : Hid (Below w.heap.size w w3) := below_step HB2.out hb1
    clear hb1
    go_wp2_with fail
    (go_at_call 12; refine (alive_any _).mono ?_; rintro e w4 ⟨rfl, hb1⟩)
    have HB4 : Hid (Below w.heap.size w w4) := below_step HB3.out hb1
    clear hb1
    go_wp2
    go_returns
    exact ⟨rfl, HB4.out⟩

set_option maxRecDepth 100000 in
theorem craneChecks_contract (H : Type) (enc : TypeId × Value → H) (W : World) (base : Nat) (args : Array Value) (ds gs : List (DataW H)) (before : List MemPlace)
    (hval : ∀ (j : Nat) t v, Try.f3.params[j]? = some t → args[j]? = some v → Value.okWide Try.prog W .any base t v)
    (hW : DataW.Whole enc Try.prog Try.f3.params.toList Rows.craneChecksSpec.vars false W args.toList ds gs before) (hL : laidMetH Try.prog Rows.craneChecksRow.laid W) :
    Calls Try.prog 3 args W fun e W' => ∃ v, e = .returned v ∧ Rows.craneChecksSpec.post enc Try.prog Try.f3 false true false false W args v W' := by
  have hW' := hW
  obtain ⟨p, q, hA0, hV, rfl, hfz, hnd⟩ := hW
  have hA : DataW.TrodAll enc Try.prog W 0 (fun _ => true) true Try.f3.params.toList args.toList ds p := hA0
  rw [Try.params3] at hA hval
  obtain ⟨v0, vs0, d0, ds0, p0, q0, hargs, rfl, rfl, h0, r0⟩ := trodAll_cons hA
  obtain ⟨rfl, rfl, rfl⟩ := trodAll_nil r0
  obtain rfl : args = #[v0] := by cases args; simp_all
  obtain ⟨n, nm, cv, rn, rr, qq, hcr⟩ := cranes_of (hval 0 22 v0 rfl rfl) h0
  refine (craneChecks_walk _ n nm cv rn rr qq W hcr).mono fun e W' ⟨he, hb⟩ => ?_
  subst he
  exact ⟨_, rfl, law_post laidOut (by kernel_rfl) (by kernel_rfl) Try.underlying4 rfl hW' (fun _ => rfl) hb⟩
theorem craneChecks_reads (os : Os) {H : Type} (enc : TypeId × Value → H) : ∃ places, DataW.whole enc Try.prog ((World.settled Try.prog os).forCall (fun _ _ => 0) ⟨#[], #[.slice none 0 0], []⟩).memory Try.f3.params.toList Rows.craneChecksSpec.vars false (#[.slice none 0 0] : Array Value).toList 8 = some ([.nil], [], places) := ⟨[], by kernel_rfl⟩
set_option maxRecDepth 100000 in
theorem craneChecks_lifted (os : Os) (started : os.Started) (H : Type) (enc : TypeId × Value → H) (F : Stop.Interp) :
    ReturnsInHanded {} Try.checked os 3 .any ((OpenSpec.ofChange Rows.craneChecksSpec).preRow enc Try.prog Try.f3 Rows.craneChecksRow.domain false Rows.craneChecksRow.laid) (((OpenSpec.ofChange Rows.craneChecksSpec).at F).post enc Try.prog Try.f3 false true false false) := by
  obtain ⟨places, hx⟩ := craneChecks_reads os enc
  refine returnsInHanded_of_row (C := Try.checked) (s := OpenSpec.ofChange Rows.craneChecksSpec) own started (by kernel_rfl) Try.func3
    (witness_row_at (enc := enc) (C := Try.checked) false (World.settled Try.prog os) #[.slice none 0 0] rfl (by kernel_rfl) (by kernel_rfl) (by kernel_rfl)
      (OpenSpec.preRow_of_cond 8 hx (by kernel_rfl) (fun k hk => by cases hk) (by kernel_rfl) (laidMet_nil _ _))) ?_
  intro W base args ds gs before hval hW _ _ _ hL _ _
  exact craneChecks_contract H enc W base args ds gs before hval hW hL
theorem craneChecks_said : Rows.CraneChecksSaid :=
  OpenClaim.holds_of_cond 3 Try.f3 rfl rfl rfl rfl rfl rfl rfl ⟨rfl, rfl, rfl, rfl, rfl⟩ rfl rfl rfl rfl rfl (by kernel_rfl) Try.func3 (by kernel_rfl)
    (of_decide_eq_true (by kernel_rfl)) (by unfold Func.isWrapper; rw [if_neg (of_decide_eq_false (by kernel_rfl))]; exact ⟨rfl, rfl⟩)
    (fun os started H enc _ F => by rw [OpenClaim.pre_eq_preRow]; exact craneChecks_lifted os started H enc F)
#print axioms craneChecks_said
end Go.Proofs.Ytmaopenmbngenaa
