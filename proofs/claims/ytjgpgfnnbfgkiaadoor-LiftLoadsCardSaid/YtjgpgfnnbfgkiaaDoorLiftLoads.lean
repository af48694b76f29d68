/-
  Loads returns what the reference returns, for any lift and weight. Conditions: none (the card ties the two tables of unicode/utf8 to the program's text). By an AI agent.
-/
import Derived.Test.YtjgpgfnnbfgkiaaDoorLiftR
namespace Go.Proofs.YtjgpgfnnbfgkiaaDoor
open Go Go.ChangeShapes Go.WideShapes Go.RowKit Go.ChangeAt
set_option linter.unusedSimpArgs false
set_option linter.unusedVariables false
set_option maxRecDepth 20000 in
set_option maxHeartbeats 4000000 in
theorem liftLoads_walk (blk : ByteArray) (hv : Value) (n : Nat) (cr : Nat → ByteArray) (hx hy hr : Nat → Int) (m x y z v : Int) (w : World) (hm : MaxLenIs w) (hh : HooksAt w hv n cr hx hy hr) : Calls Tryd.prog 4 #[.agg #[.string blk, hv], .agg #[.int .i64 m, .int .i64 x, .int .i64 y, .int .i64 z, .int .i64 v]] w fun e w' => e = .returned (.bool true) ∧ Below w.heap.size w w' := by
  have HM := Lib.hid hm
  have HH := Lib.hid hh
  obtain ⟨oa, cap, rfl, hn, -⟩ := hh.form
  obtain ⟨L, LE, hL⟩ : ∃ L LE, loadsF n hx hy m x y z v = (L, LE) := ⟨_, _, rfl⟩
  have HL := Lib.hid hL
  clear hm hh hL
  by_cases h10 : 10 < n
  · have b10 : decide (10 < (n : Int)) = true := decide_eq_true (by omega)
    go_enter Tryd.func4, Tryd.ntmps4
    go_wp2_with fail
    (go_at_call 13; refine (awake_any _ (HM.out.below (((Below.refl w.heap.size w).alloc (Nat.le_refl _) _).alloc (by simp) _))).mono ?_; rintro e w1 ⟨rfl, hb⟩)
    go_wp2
    go_returns
    exact ⟨rfl, below_step (w := w) (by go_grown) hb⟩
  · have b10 : decide (10 < (n : Int)) = false := decide_eq_false (by omega)
    go_enter Tryd.func4, Tryd.ntmps4
    go_wp2_with fail
    (go_at_call 14; refine (loads_any blk _ n cr hx hy hr m x y z v _ (HH.out.below (((Below.refl w.heap.size w).alloc (Nat.le_refl _) _).alloc (by simp) _))).mono ?_; rintro e w1 ⟨lv, rfl, hlv, -, hb⟩)
    rw [HL.out] at hlv ⊢
    have HA1 := Lib.hid hlv
    obtain ⟨ol, cl, rfl, -, -⟩ := hlv.form
    clear hlv
    have hs1 := hb.size
    (try simp only [World.size_alloc, World.size_setCell] at hs1)
    have z10 : w.heap.size < w1.heap.size := by omega
    have z11 : w.heap.size + 1 < w1.heap.size := by omega
    have d01 : w1.cell? ⟨w.heap.size, 0, none⟩ = some (.string blk) := (hb.cell (p := ⟨_, _, none⟩) (by simp <;> omega)).trans (by simp [go_sem])
    have d11 : w1.cell? ⟨w.heap.size, 1, none⟩ = some (.slice oa n cap) := (hb.cell (p := ⟨_, _, none⟩) (by simp <;> omega)).trans (by simp [go_sem])
    have c01 : w1.cell? ⟨w.heap.size + 1, 0, none⟩ = some (.int .i64 m) := (hb.cell (p := ⟨_, _, none⟩) (by simp <;> omega)).trans (by simp [go_sem])
    have c11 : w1.cell? ⟨w.heap.size + 1, 1, none⟩ = some (.int .i64 x) := (hb.cell (p := ⟨_, _, none⟩) (by simp <;> omega)).trans (by simp [go_sem])
    have c21 : w1.cell? ⟨w.heap.size + 1, 2, none⟩ = some (.int .i64 y) := (hb.cell (p := ⟨_, _, none⟩) (by simp <;> omega)).trans (by simp [go_sem])
    have c31 : w1.cell? ⟨w.heap.size + 1, 3, none⟩ = some (.int .i64 z) := (hb.cell (p := ⟨_, _, none⟩) (by simp <;> omega)).trans (by simp [go_sem])
    have c41 : w1.cell? ⟨w.heap.size + 1, 4, none⟩ = some (.int .i64 v) := (hb.cell (p := ⟨_, _, none⟩) (by simp <;> omega)).trans (by simp [go_sem])
    have HB1 : Hid (Below w.heap.size w w1) := by
      show Below _ _ _
      exact below_step (w := w) (by go_grown) hb
    clear hb hs1
    go_wp2_with fail
    (go_at_call 15; refine (rloads_any blk _ n cr hx hy hr m x y z v _ (HH.out.below HB1.out)).mono ?_; rintro e w2 ⟨lv2, rfl, hlv, -, hb⟩)
    rw [HL.out] at hlv ⊢
    have HA2 := Lib.hid hlv
    obtain ⟨ol2, cl2, rfl, -, -⟩ := hlv.form
    have HA12 := Lib.hid (HA1.out.below hb)
    clear hlv
    have hs2 := hb.size
    (try simp only [World.size_alloc, World.size_setCell] at hs2)
    have z20 : w.heap.size < w2.heap.size := by omega
    have z21 : w.heap.size + 1 < w2.heap.size := by omega
    have HB2 : Hid (Below w.heap.size w w2) := by
      show Below _ _ _
      exact below_step HB1.out hb
    clear hb hs2
    go_wp2_with fail
    (go_at_call 16; refine (sameInts_yes _ _ _ _ HA12.out HA2.out).mono ?_; rintro e w3 ⟨rfl, hb⟩)
    have hs3 := hb.size
    (try simp only [World.size_alloc, World.size_setCell] at hs3)
    have z30 : w.heap.size < w3.heap.size := by omega
    have HB3 : Hid (Below w.heap.size w w3) := by
      show Below _ _ _
      exact below_step HB2.out hb
    clear hb hs3
    go_wp2_with fail
    (go_at_call 13; refine (awake_any _ (HM.out.below HB3.out)).mono ?_; rintro e w4 ⟨rfl, hb⟩)
    have hs4 := hb.size
    (try simp only [World.size_alloc, World.size_setCell] at hs4)
    have z40 : w.heap.size < w4.heap.size := by omega
    have HB4 : Hid (Below w.heap.size w w4) := by
      show Below _ _ _
      exact below_step HB3.out hb
    clear hb hs4
    go_wp2
    go_returns
    exact ⟨rfl, HB4.out⟩

set_option maxRecDepth 100000 in
theorem liftLoads_contract (H : Type) (enc : TypeId × Value → H) (W : World) (base : Nat) (args : Array Value) (ds gs : List (DataW H)) (before : List MemPlace)
    (hval : ∀ (j : Nat) t v, Tryd.f4.params[j]? = some t → args[j]? = some v → Value.okWide Tryd.prog W .any base t v)
    (hW : DataW.Whole enc Tryd.prog Tryd.f4.params.toList Rows.liftLoadsSpec.vars false W args.toList ds gs before) (hL : laidMetH Tryd.prog Rows.liftLoadsRow.laid W) (hSh : W.ShapedOpen Tryd.prog) :
    Calls Tryd.prog 4 args W fun e W' => ∃ v, e = .returned v ∧ Rows.liftLoadsSpec.post enc Tryd.prog Tryd.f4 false true false false W args v W' := by
  have hW' := hW
  obtain ⟨p, q, hA0, hV, rfl, hfz, hnd⟩ := hW
  have hA : DataW.TrodAll enc Tryd.prog W 0 (fun _ => true) true Tryd.f4.params.toList args.toList ds p := hA0
  rw [Tryd.params4] at hA hval
  obtain ⟨v0, vs0, d0, ds0, p0, q0, hargs, rfl, rfl, h0, r0⟩ := trodAll_cons hA
  obtain ⟨v1, vs1, d1, ds1, p1, q1, rfl, rfl, rfl, h1, r1⟩ := trodAll_cons r0
  obtain ⟨rfl, rfl, rfl⟩ := trodAll_nil r1
  obtain rfl : args = #[v0, v1] := by cases args; simp_all
  obtain ⟨blk, hv, n, cr, hx, hy, hr, rfl, hbk, hh⟩ := lift_arg (hval 0 31 v0 rfl rfl) h0
  obtain ⟨m, x, y, z, v, rfl⟩ := weight_arg (hval 1 23 v1 rfl rfl) h1
  refine (liftLoads_walk blk hv n cr hx hy hr m x y z v W (maxLen_of W hSh) hh).mono fun e W' ⟨he, hb⟩ => ?_
  subst he
  exact ⟨_, rfl, law_post laidOut (by kernel_rfl) (by kernel_rfl) Tryd.underlying4 rfl hW' (fun _ => rfl) hb⟩
theorem liftLoads_laid (os : Os) : laidMet Tryd.prog Rows.liftLoadsRow.laid ((laidWorld os).forCall (fun _ _ => 0) ⟨#[], #[.agg #[.string ⟨#[]⟩, .slice none 0 0], .agg #[.int .i64 0, .int .i64 0, .int .i64 0, .int .i64 0, .int .i64 0]], []⟩).memory := laidMet_of_run' 8 (by kernel_rfl) (by kernel_rfl)
theorem liftLoads_reads (os : Os) {H : Type} (enc : TypeId × Value → H) : ∃ places, DataW.whole enc Tryd.prog ((laidWorld os).forCall (fun _ _ => 0) ⟨#[], #[.agg #[.string ⟨#[]⟩, .slice none 0 0], .agg #[.int .i64 0, .int .i64 0, .int .i64 0, .int .i64 0, .int .i64 0]], []⟩).memory Tryd.f4.params.toList Rows.liftLoadsSpec.vars false (#[.agg #[.string ⟨#[]⟩, .slice none 0 0], .agg #[.int .i64 0, .int .i64 0, .int .i64 0, .int .i64 0, .int .i64 0]] : Array Value).toList 8 = some ([.agg [.lit (.string []), .nil], .agg [.lit (.int .i64 0), .lit (.int .i64 0), .lit (.int .i64 0), .lit (.int .i64 0), .lit (.int .i64 0)]], [], places) := ⟨[], by kernel_rfl⟩
set_option maxRecDepth 100000 in
theorem liftLoads_lifted (os : Os) (started : os.Started) (H : Type) (enc : TypeId × Value → H) (F : Stop.Interp) :
    ReturnsInHanded {} Tryd.checked os 4 .any ((OpenSpec.ofChange Rows.liftLoadsSpec).preRow enc Tryd.prog Tryd.f4 Rows.liftLoadsRow.domain false Rows.liftLoadsRow.laid) (((OpenSpec.ofChange Rows.liftLoadsSpec).at F).post enc Tryd.prog Tryd.f4 false true false false) := by
  obtain ⟨places, hx⟩ := liftLoads_reads os enc
  refine returnsInHanded_of_row (C := Tryd.checked) (s := OpenSpec.ofChange Rows.liftLoadsSpec) own started (by kernel_rfl) Tryd.func4
    (witness_row_at (enc := enc) (C := Tryd.checked) false (laidWorld os) #[.agg #[.string ⟨#[]⟩, .slice none 0 0], .agg #[.int .i64 0, .int .i64 0, .int .i64 0, .int .i64 0, .int .i64 0]] rfl (by kernel_rfl) (by kernel_rfl) (by kernel_rfl)
      (OpenSpec.preRow_of_cond 8 hx (by kernel_rfl) (fun k hk => by cases hk) (by kernel_rfl) (liftLoads_laid os))) ?_
  intro W base args ds gs before hval hW _ _ _ hL hSh _
  exact liftLoads_contract H enc W base args ds gs before hval hW hL hSh
theorem liftLoads_said : Rows.LiftLoadsSaid :=
  OpenClaim.holds_of_cond 4 Tryd.f4 rfl rfl rfl rfl rfl rfl rfl ⟨rfl, rfl, rfl, rfl, rfl⟩ rfl rfl rfl rfl rfl (by kernel_rfl) Tryd.func4 (by kernel_rfl)
    (of_decide_eq_true (by kernel_rfl)) (by unfold Func.isWrapper; rw [if_neg (of_decide_eq_false (by kernel_rfl))]; exact ⟨rfl, rfl⟩)
    (fun os started H enc _ F => by rw [OpenClaim.pre_eq_preRow]; exact liftLoads_lifted os started H enc F)
theorem liftLoads_plain (f : FuncId) (fn : Func) (hf : Tryd.pinned.checked.prog.funcNamed "shipyard/shipyardlaw50.LiftLoads" = some f) (hfn : Tryd.pinned.checked.prog.funcs[f]? = some fn) :
    false = Tryd.pinned.checked.prog.looks [] ∧ ∀ (j : Nat) t, fn.params[j]? = some t → Tryd.pinned.checked.prog.wantsStandIn t = false := by
  obtain rfl : f = 4 := Option.some.inj ((show Tryd.prog.funcNamed "shipyard/shipyardlaw50.LiftLoads" = some 4 by kernel_rfl).symm.trans hf) |>.symm
  obtain rfl : fn = Tryd.f4 := (Option.some.inj (Tryd.func4.symm.trans hfn)).symm
  refine ⟨by kernel_rfl, fun j t ht => ?_⟩
  rw [Tryd.params4] at ht
  have hm : t ∈ [31, 23] := by simpa using Array.mem_of_getElem? ht
  have hall : ([31, 23].all fun u => !Tryd.prog.wantsStandIn u) = true := by kernel_rfl
  exact (show Tryd.prog.wantsStandIn t = false by simpa using List.all_eq_true.1 hall t hm)
/-- the card -/
theorem liftLoads_card : Rows.LiftLoadsCardSaid :=
  Claim7.holds_tied_plain_at .later [] _ _ _ _ liftLoads_said (fun _ h => by cases h) (by kernel_rfl) (fun _ h => by cases h) liftLoads_row_tie rfl ⟨rfl, rfl⟩ (by kernel_rfl) rfl liftLoads_plain (by kernel_rfl)
#print axioms liftLoads_card
end Go.Proofs.YtjgpgfnnbfgkiaaDoor
