/-
  Gross returns what the reference returns, for any weight. Conditions: none (the card ties the two tables of unicode/utf8 to the program's text). By an AI agent.
-/
import Derived.Test.YtjgpgfnnbfgkiaaDoorLiftR
namespace Go.Proofs.YtjgpgfnnbfgkiaaDoor
open Go Go.ChangeShapes Go.WideShapes Go.RowKit Go.ChangeAt
set_option linter.unusedSimpArgs false
set_option linter.unusedVariables false
set_option maxRecDepth 20000 in
set_option maxHeartbeats 4000000 in
theorem liftGross_walk (m x y z v : Int) (w : World) (hm : MaxLenIs w) : Calls Tryd.prog 3 #[.agg #[.int .i64 m, .int .i64 x, .int .i64 y, .int .i64 z, .int .i64 v]] w fun e w' => e = .returned (.bool true) ∧ Below w.heap.size w w' := by
  have HM := Lib.hid hm
  clear hm
  obtain ⟨G, GE, hG⟩ : ∃ G GE, grossF m x y z v = (G, GE) := ⟨_, _, rfl⟩
  have HG := Lib.hid hG
  clear hG
  go_enter Tryd.func3, Tryd.ntmps3
  go_wp2_with fail
  (go_at_call 11; refine (gross_any _ _ _ _ _ _).mono ?_; rintro e w1 ⟨rfl, hb⟩)
  rw [HG.out]
  have hs1 := hb.size
  (try simp only [World.size_alloc, World.size_setCell] at hs1)
  have z10 : w.heap.size < w1.heap.size := by omega
  have c01 : w1.cell? ⟨w.heap.size, 0, none⟩ = some (.int .i64 m) := (hb.cell (p := ⟨_, _, none⟩) (by simp <;> omega)).trans (by simp [go_sem])
  have c11 : w1.cell? ⟨w.heap.size, 1, none⟩ = some (.int .i64 x) := (hb.cell (p := ⟨_, _, none⟩) (by simp <;> omega)).trans (by simp [go_sem])
  have c21 : w1.cell? ⟨w.heap.size, 2, none⟩ = some (.int .i64 y) := (hb.cell (p := ⟨_, _, none⟩) (by simp <;> omega)).trans (by simp [go_sem])
  have c31 : w1.cell? ⟨w.heap.size, 3, none⟩ = some (.int .i64 z) := (hb.cell (p := ⟨_, _, none⟩) (by simp <;> omega)).trans (by simp [go_sem])
  have c41 : w1.cell? ⟨w.heap.size, 4, none⟩ = some (.int .i64 v) := (hb.cell (p := ⟨_, _, none⟩) (by simp <;> omega)).trans (by simp [go_sem])
  have HB1 : Hid (Below w.heap.size w w1) := by
    show Below _ _ _
    exact below_step (w := w) (by go_grown) hb
  clear hb hs1
  go_wp2_with fail
  (go_at_call 12; refine (rgross_any _ _ _ _ _ _).mono ?_; rintro e w2 ⟨rfl, hb⟩)
  rw [HG.out]
  have hs2 := hb.size
  (try simp only [World.size_alloc, World.size_setCell] at hs2)
  have z20 : w.heap.size < w2.heap.size := by omega
  have HB2 : Hid (Below w.heap.size w w2) := by
    show Below _ _ _
    exact below_step HB1.out hb
  clear hb hs2
  go_wp2_with fail
  (go_at_call 13; refine (awake_any _ (HM.out.below HB2.out)).mono ?_; rintro e w3 ⟨rfl, hb⟩)
  have hs3 := hb.size
  (try simp only [World.size_alloc, World.size_setCell] at hs3)
  have z30 : w.heap.size < w3.heap.size := by omega
  have HB3 : Hid (Below w.heap.size w w3) := by
    show Below _ _ _
    exact below_step HB2.out hb
  clear hb hs3
  go_wp2
  go_returns
  exact ⟨rfl, HB3.out⟩

set_option maxRecDepth 100000 in
theorem liftGross_contract (H : Type) (enc : TypeId × Value → H) (W : World) (base : Nat) (args : Array Value) (ds gs : List (DataW H)) (before : List MemPlace)
    (hval : ∀ (j : Nat) t v, Tryd.f3.params[j]? = some t → args[j]? = some v → Value.okWide Tryd.prog W .any base t v)
    (hW : DataW.Whole enc Tryd.prog Tryd.f3.params.toList Rows.liftGrossSpec.vars false W args.toList ds gs before) (hL : laidMetH Tryd.prog Rows.liftGrossRow.laid W) (hSh : W.ShapedOpen Tryd.prog) :
    Calls Tryd.prog 3 args W fun e W' => ∃ v, e = .returned v ∧ Rows.liftGrossSpec.post enc Tryd.prog Tryd.f3 false true false false W args v W' := by
  have hW' := hW
  obtain ⟨p, q, hA0, hV, rfl, hfz, hnd⟩ := hW
  have hA : DataW.TrodAll enc Tryd.prog W 0 (fun _ => true) true Tryd.f3.params.toList args.toList ds p := hA0
  rw [Tryd.params3] at hA hval
  obtain ⟨v0, vs0, d0, ds0, p0, q0, hargs, rfl, rfl, h0, r0⟩ := trodAll_cons hA
  obtain ⟨rfl, rfl, rfl⟩ := trodAll_nil r0
  obtain rfl : args = #[v0] := by cases args; simp_all
  obtain ⟨m, x, y, z, v, rfl⟩ := weight_arg (hval 0 23 v0 rfl rfl) h0
  refine (liftGross_walk m x y z v W (maxLen_of W hSh)).mono fun e W' ⟨he, hb⟩ => ?_
  subst he
  exact ⟨_, rfl, law_post laidOut (by kernel_rfl) (by kernel_rfl) Tryd.underlying4 rfl hW' (fun _ => rfl) hb⟩
theorem liftGross_laid (os : Os) : laidMet Tryd.prog Rows.liftGrossRow.laid ((laidWorld os).forCall (fun _ _ => 0) ⟨#[], #[.agg #[.int .i64 0, .int .i64 0, .int .i64 0, .int .i64 0, .int .i64 0]], []⟩).memory := laidMet_of_run' 8 (by kernel_rfl) (by kernel_rfl)
theorem liftGross_reads (os : Os) {H : Type} (enc : TypeId × Value → H) : ∃ places, DataW.whole enc Tryd.prog ((laidWorld os).forCall (fun _ _ => 0) ⟨#[], #[.agg #[.int .i64 0, .int .i64 0, .int .i64 0, .int .i64 0, .int .i64 0]], []⟩).memory Tryd.f3.params.toList Rows.liftGrossSpec.vars false (#[.agg #[.int .i64 0, .int .i64 0, .int .i64 0, .int .i64 0, .int .i64 0]] : Array Value).toList 8 = some ([.agg [.lit (.int .i64 0), .lit (.int .i64 0), .lit (.int .i64 0), .lit (.int .i64 0), .lit (.int .i64 0)]], [], places) := ⟨[], by kernel_rfl⟩
set_option maxRecDepth 100000 in
theorem liftGross_lifted (os : Os) (started : os.Started) (H : Type) (enc : TypeId × Value → H) (F : Stop.Interp) :
    ReturnsInHanded {} Tryd.checked os 3 .any ((OpenSpec.ofChange Rows.liftGrossSpec).preRow enc Tryd.prog Tryd.f3 Rows.liftGrossRow.domain false Rows.liftGrossRow.laid) (((OpenSpec.ofChange Rows.liftGrossSpec).at F).post enc Tryd.prog Tryd.f3 false true false false) := by
  obtain ⟨places, hx⟩ := liftGross_reads os enc
  refine returnsInHanded_of_row (C := Tryd.checked) (s := OpenSpec.ofChange Rows.liftGrossSpec) own started (by kernel_rfl) Tryd.func3
    (witness_row_at (enc := enc) (C := Tryd.checked) false (laidWorld os) #[.agg #[.int .i64 0, .int .i64 0, .int .i64 0, .int .i64 0, .int .i64 0]] rfl (by kernel_rfl) (by kernel_rfl) (by kernel_rfl)
      (OpenSpec.preRow_of_cond 8 hx (by kernel_rfl) (fun k hk => by cases hk) (by kernel_rfl) (liftGross_laid os))) ?_
  intro W base args ds gs before hval hW _ _ _ hL hSh _
  exact liftGross_contract H enc W base args ds gs before hval hW hL hSh
theorem liftGross_said : Rows.LiftGrossSaid :=
  OpenClaim.holds_of_cond 3 Tryd.f3 rfl rfl rfl rfl rfl rfl rfl ⟨rfl, rfl, rfl, rfl, rfl⟩ rfl rfl rfl rfl rfl (by kernel_rfl) Tryd.func3 (by kernel_rfl)
    (of_decide_eq_true (by kernel_rfl)) (by unfold Func.isWrapper; rw [if_neg (of_decide_eq_false (by kernel_rfl))]; exact ⟨rfl, rfl⟩)
    (fun os started H enc _ F => by rw [OpenClaim.pre_eq_preRow]; exact liftGross_lifted os started H enc F)
theorem liftGross_plain (f : FuncId) (fn : Func) (hf : Tryd.pinned.checked.prog.funcNamed "shipyard/shipyardlaw50.LiftGross" = some f) (hfn : Tryd.pinned.checked.prog.funcs[f]? = some fn) :
    false = Tryd.pinned.checked.prog.looks [] ∧ ∀ (j : Nat) t, fn.params[j]? = some t → Tryd.pinned.checked.prog.wantsStandIn t = false := by
  obtain rfl : f = 3 := Option.some.inj ((show Tryd.prog.funcNamed "shipyard/shipyardlaw50.LiftGross" = some 3 by kernel_rfl).symm.trans hf) |>.symm
  obtain rfl : fn = Tryd.f3 := (Option.some.inj (Tryd.func3.symm.trans hfn)).symm
  refine ⟨by kernel_rfl, fun j t ht => ?_⟩
  rw [Tryd.params3] at ht
  have hm : t ∈ [23] := by simpa using Array.mem_of_getElem? ht
  have hall : ([23].all fun u => !Tryd.prog.wantsStandIn u) = true := by kernel_rfl
  exact (show Tryd.prog.wantsStandIn t = false by simpa using List.all_eq_true.1 hall t hm)
/-- the card -/
theorem liftGross_card : Rows.LiftGrossCardSaid :=
  Claim7.holds_tied_plain_at .later [] _ _ _ _ liftGross_said (fun _ h => by cases h) (by kernel_rfl) (fun _ h => by cases h) liftGross_row_tie rfl ⟨rfl, rfl⟩ (by kernel_rfl) rfl liftGross_plain (by kernel_rfl)
#print axioms liftGross_card
end Go.Proofs.YtjgpgfnnbfgkiaaDoor
