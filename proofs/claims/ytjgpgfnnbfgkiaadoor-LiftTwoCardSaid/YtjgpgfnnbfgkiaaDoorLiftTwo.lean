/-
  Two hooks in the opposite order have their loads in the opposite order. Conditions: none (the card ties the two tables of unicode/utf8 to the program's text). By an AI agent.
-/
import Derived.Test.YtjgpgfnnbfgkiaaDoorLiftR
import Derived.Test.YtjgpgfnnbfgkiaaDoorLiftQ
namespace Go.Proofs.YtjgpgfnnbfgkiaaDoor
open Go Go.ChangeShapes Go.WideShapes Go.RowKit Go.ChangeAt
set_option linter.unusedSimpArgs false
set_option linter.unusedVariables false
set_option maxRecDepth 20000 in
set_option maxHeartbeats 8000000 in
theorem liftTwo_walk (sa sk : ByteArray) (ax ay ar kx ky kr m x y z v : Int) (w : World) (hm : MaxLenIs w) (hsa : sa.size ≤ 9223372036854775807) (hsk : sk.size ≤ 9223372036854775807) : Calls Tryd.prog 8 #[.agg #[.string sa, .int .i64 ax, .int .i64 ay, .int .i64 ar], .agg #[.string sk, .int .i64 kx, .int .i64 ky, .int .i64 kr], .agg #[.int .i64 m, .int .i64 x, .int .i64 y, .int .i64 z, .int .i64 v]] w fun e w' => e = .returned (.bool true) ∧ Below w.heap.size w w' := by
  have HM := Lib.hid hm
  clear hm
  obtain ⟨e2, hrev⟩ := loads_swap ax ay kx ky m x y z v
  obtain ⟨L, E, hL⟩ : ∃ L E, loadsF 2 (twoF ax kx) (twoF ay ky) m x y z v = (L, E) := ⟨_, _, rfl⟩
  obtain ⟨M, E2, hL2⟩ : ∃ L E, loadsF 2 (twoF kx ax) (twoF ky ay) m x y z v = (L, E) := ⟨_, _, rfl⟩
  rw [hL, hL2] at e2 hrev
  have e2 : E2 = E := e2
  subst e2
  have HRV := Lib.hid hrev
  have HL := Lib.hid hL
  have HL2 := Lib.hid hL2
  clear hL hL2 hrev
  go_enter Tryd.func8, Tryd.ntmps8
  go_wp2_with fail
  (go_at_call 14; refine (loads_any _ _ 2 (twoF sa sk) (twoF ax kx) (twoF ay ky) (twoF ar kr) m x y z v _ (hooks_two (t := 42) hsa hsk (heapA_at _ _ _ (by first | rfl | simp)))).mono ?_; rintro e w1 ⟨lv1, rfl, hlv, -, hb⟩)
  rw [HL.out] at hlv ⊢
  obtain ⟨ol1, cl1, rfl, -, -⟩ := hlv.form
  have HV1 := Lib.hid hlv
  clear hlv
  have hs1 := hb.size
  (try simp only [World.size_alloc, World.size_setCell] at hs1)
  have z10 : w.heap.size < w1.heap.size := by omega
  have z11 : w.heap.size + 1 < w1.heap.size := by omega
  have z12 : w.heap.size + 1 + 1 < w1.heap.size := by omega
  have pa01 : w1.cell? ⟨w.heap.size, 0, none⟩ = some (.string sa) := (hb.cell (p := ⟨_, _, none⟩) (by simp <;> omega)).trans (by simp [go_sem])
  have pa11 : w1.cell? ⟨w.heap.size, 1, none⟩ = some (.int .i64 ax) := (hb.cell (p := ⟨_, _, none⟩) (by simp <;> omega)).trans (by simp [go_sem])
  have pa21 : w1.cell? ⟨w.heap.size, 2, none⟩ = some (.int .i64 ay) := (hb.cell (p := ⟨_, _, none⟩) (by simp <;> omega)).trans (by simp [go_sem])
  have pa31 : w1.cell? ⟨w.heap.size, 3, none⟩ = some (.int .i64 ar) := (hb.cell (p := ⟨_, _, none⟩) (by simp <;> omega)).trans (by simp [go_sem])
  have pk01 : w1.cell? ⟨w.heap.size + 1, 0, none⟩ = some (.string sk) := (hb.cell (p := ⟨_, _, none⟩) (by simp <;> omega)).trans (by simp [go_sem])
  have pk11 : w1.cell? ⟨w.heap.size + 1, 1, none⟩ = some (.int .i64 kx) := (hb.cell (p := ⟨_, _, none⟩) (by simp <;> omega)).trans (by simp [go_sem])
  have pk21 : w1.cell? ⟨w.heap.size + 1, 2, none⟩ = some (.int .i64 ky) := (hb.cell (p := ⟨_, _, none⟩) (by simp <;> omega)).trans (by simp [go_sem])
  have pk31 : w1.cell? ⟨w.heap.size + 1, 3, none⟩ = some (.int .i64 kr) := (hb.cell (p := ⟨_, _, none⟩) (by simp <;> omega)).trans (by simp [go_sem])
  have c01 : w1.cell? ⟨w.heap.size + 1 + 1, 0, none⟩ = some (.int .i64 m) := (hb.cell (p := ⟨_, _, none⟩) (by simp <;> omega)).trans (by simp [go_sem])
  have c11 : w1.cell? ⟨w.heap.size + 1 + 1, 1, none⟩ = some (.int .i64 x) := (hb.cell (p := ⟨_, _, none⟩) (by simp <;> omega)).trans (by simp [go_sem])
  have c21 : w1.cell? ⟨w.heap.size + 1 + 1, 2, none⟩ = some (.int .i64 y) := (hb.cell (p := ⟨_, _, none⟩) (by simp <;> omega)).trans (by simp [go_sem])
  have c31 : w1.cell? ⟨w.heap.size + 1 + 1, 3, none⟩ = some (.int .i64 z) := (hb.cell (p := ⟨_, _, none⟩) (by simp <;> omega)).trans (by simp [go_sem])
  have c41 : w1.cell? ⟨w.heap.size + 1 + 1, 4, none⟩ = some (.int .i64 v) := (hb.cell (p := ⟨_, _, none⟩) (by simp <;> omega)).trans (by simp [go_sem])
  have HB1 : Hid (Below w.heap.size w w1) := by
    show Below _ _ _
    exact below_step (w := w) (by go_grown) hb
  clear hb hs1
  go_wp2_with fail
  (go_at_call 14; refine (loads_any _ _ 2 (twoF sk sa) (twoF kx ax) (twoF ky ay) (twoF kr ar) m x y z v _ (hooks_two (t := 42) hsk hsa (heapA_at _ _ _ (by first | rfl | simp)))).mono ?_; rintro e w2 ⟨lv2, rfl, hlv, -, hb⟩)
  rw [HL2.out] at hlv ⊢
  obtain ⟨ol2, cl2, rfl, -, -⟩ := hlv.form
  have HV2 := Lib.hid hlv
  have HV12 : Hid (OutI w2 (.slice ol1 L.length cl1) L) := HV1.out.below (below_step (w := w1) (by go_grown) hb)
  clear hlv
  have hs2 := hb.size
  have HB2 : Hid (Below w.heap.size w w2) := by
    show Below _ _ _
    exact below_step (HB1.out.alloc HB1.out.size _) hb
  clear hb hs2
  by_cases hE : E2 = 0
  · subst hE
    obtain ⟨p, q, hp, hq⟩ := HRV.out rfl
    have hp : L = [p, q] := hp
    have hq : M = [q, p] := hq
    subst hp hq
    obtain ⟨oz1, cz1, hf1, -, hl1⟩ := HV12.out.form
    obtain ⟨oz2, cz2, hf2, -, hl2⟩ := HV2.out.form
    cases hf1
    cases hf2
    obtain ⟨b1, o1, rfl, hb1l, hc1⟩ := hl1 0 (by simp)
    obtain ⟨b2, o2, rfl, hb2l, hc2⟩ := hl2 0 (by simp)
    have x0 : w2.cell? ⟨b1, o1, none⟩ = some (.int .i64 p) := hc1 0 (by simp)
    have x1 : w2.cell? ⟨b1, o1 + 1, none⟩ = some (.int .i64 q) := hc1 1 (by simp)
    have y0 : w2.cell? ⟨b2, o2, none⟩ = some (.int .i64 q) := hc2 0 (by simp)
    have y1 : w2.cell? ⟨b2, o2 + 1, none⟩ = some (.int .i64 p) := hc2 1 (by simp)
    clear hc1 hc2 hl1 hl2
    simp only [List.length_cons, List.length_nil]
    have hpc := past_cell
    go_wp2_with fail
    refine wp_region_past (by kernel_rfl) (by kernel_rfl) ?_
    iterate 27 go_big_quiet_step (fail)
    go_big_quiet_step ((go_at_call 13; exact past_of (awake_any _ (HM.out.below (below_step HB2.out (Past.h _))))))
    iterate 2 go_big_quiet_step (fail)
    refine wpQuiet_nil ?_
    intro w3 hw'
    have hb1 := past_out hw'
    clear hw'
    have HB3 := Lib.hid (below_step HB2.out hb1)
    clear hb1
    go_wp2
    go_returns
    exact ⟨rfl, HB3.out⟩
  · have k0 : (E2 != 0) = true := by simpa using hE
    clear hE
    go_wp2_with fail
    (go_at_call 13; refine (awake_any _ (HM.out.below HB2.out)).mono ?_; rintro e w3 ⟨rfl, hb⟩)
    have HB3 := Lib.hid (below_step HB2.out hb)
    clear hb
    go_wp2
    go_returns
    exact ⟨rfl, HB3.out⟩

set_option maxRecDepth 100000 in
theorem liftTwo_contract (H : Type) (enc : TypeId × Value → H) (W : World) (base : Nat) (args : Array Value) (ds gs : List (DataW H)) (before : List MemPlace)
    (hval : ∀ (j : Nat) t v, Tryd.f8.params[j]? = some t → args[j]? = some v → Value.okWide Tryd.prog W .any base t v)
    (hW : DataW.Whole enc Tryd.prog Tryd.f8.params.toList Rows.liftTwoSpec.vars false W args.toList ds gs before) (hL : laidMetH Tryd.prog Rows.liftTwoRow.laid W) (hSh : W.ShapedOpen Tryd.prog) :
    Calls Tryd.prog 8 args W fun e W' => ∃ v, e = .returned v ∧ Rows.liftTwoSpec.post enc Tryd.prog Tryd.f8 false true false false W args v W' := by
  have hW' := hW
  obtain ⟨p, q, hA0, hV, rfl, hfz, hnd⟩ := hW
  have hA : DataW.TrodAll enc Tryd.prog W 0 (fun _ => true) true Tryd.f8.params.toList args.toList ds p := hA0
  rw [Tryd.params8] at hA hval
  obtain ⟨v0, vs0, d0, ds0, p0, q0, hargs, rfl, rfl, h0, r0⟩ := trodAll_cons hA
  obtain ⟨v1, vs1, d1, ds1, p1, q1, rfl, rfl, rfl, h1, r1⟩ := trodAll_cons r0
  obtain ⟨v2, vs2, d2, ds2, p2, q2, rfl, rfl, rfl, h2, r2⟩ := trodAll_cons r1
  obtain ⟨rfl, rfl, rfl⟩ := trodAll_nil r2
  obtain rfl : args = #[v0, v1, v2] := by cases args; simp_all
  obtain ⟨sa, ax, ay, ar, rfl, hsa⟩ := hook_arg (hval 0 42 v0 rfl rfl) h0
  obtain ⟨sk, kx, ky, kr, rfl, hsk⟩ := hook_arg (hval 1 42 v1 rfl rfl) h1
  obtain ⟨m, x, y, z, v, rfl⟩ := weight_arg (hval 2 23 v2 rfl rfl) h2
  refine (liftTwo_walk sa sk ax ay ar kx ky kr m x y z v W (maxLen_of W hSh) hsa hsk).mono fun e W' ⟨he, hb⟩ => ?_
  subst he
  exact ⟨_, rfl, law_post laidOut (by kernel_rfl) (by kernel_rfl) Tryd.underlying4 rfl hW' (fun _ => rfl) hb⟩
theorem liftTwo_laid (os : Os) : laidMet Tryd.prog Rows.liftTwoRow.laid ((laidWorld os).forCall (fun _ _ => 0) ⟨#[], #[.agg #[.string ⟨#[]⟩, .int .i64 0, .int .i64 0, .int .i64 0], .agg #[.string ⟨#[]⟩, .int .i64 0, .int .i64 0, .int .i64 0], .agg #[.int .i64 0, .int .i64 0, .int .i64 0, .int .i64 0, .int .i64 0]], []⟩).memory := laidMet_of_run' 8 (by kernel_rfl) (by kernel_rfl)
theorem liftTwo_reads (os : Os) {H : Type} (enc : TypeId × Value → H) : ∃ places, DataW.whole enc Tryd.prog ((laidWorld os).forCall (fun _ _ => 0) ⟨#[], #[.agg #[.string ⟨#[]⟩, .int .i64 0, .int .i64 0, .int .i64 0], .agg #[.string ⟨#[]⟩, .int .i64 0, .int .i64 0, .int .i64 0], .agg #[.int .i64 0, .int .i64 0, .int .i64 0, .int .i64 0, .int .i64 0]], []⟩).memory Tryd.f8.params.toList Rows.liftTwoSpec.vars false (#[.agg #[.string ⟨#[]⟩, .int .i64 0, .int .i64 0, .int .i64 0], .agg #[.string ⟨#[]⟩, .int .i64 0, .int .i64 0, .int .i64 0], .agg #[.int .i64 0, .int .i64 0, .int .i64 0, .int .i64 0, .int .i64 0]] : Array Value).toList 8 = some ([.agg [.lit (.string []), .agg [.lit (.int .i64 0), .lit (.int .i64 0)], .lit (.int .i64 0)], .agg [.lit (.string []), .agg [.lit (.int .i64 0), .lit (.int .i64 0)], .lit (.int .i64 0)], .agg [.lit (.int .i64 0), .lit (.int .i64 0), .lit (.int .i64 0), .lit (.int .i64 0), .lit (.int .i64 0)]], [], places) := ⟨[], by kernel_rfl⟩
set_option maxRecDepth 100000 in
theorem liftTwo_lifted (os : Os) (started : os.Started) (H : Type) (enc : TypeId × Value → H) (F : Stop.Interp) :
    ReturnsInHanded {} Tryd.checked os 8 .any ((OpenSpec.ofChange Rows.liftTwoSpec).preRow enc Tryd.prog Tryd.f8 Rows.liftTwoRow.domain false Rows.liftTwoRow.laid) (((OpenSpec.ofChange Rows.liftTwoSpec).at F).post enc Tryd.prog Tryd.f8 false true false false) := by
  obtain ⟨places, hx⟩ := liftTwo_reads os enc
  refine returnsInHanded_of_row (C := Tryd.checked) (s := OpenSpec.ofChange Rows.liftTwoSpec) own started (by kernel_rfl) Tryd.func8
    (witness_row_at (enc := enc) (C := Tryd.checked) false (laidWorld os) #[.agg #[.string ⟨#[]⟩, .int .i64 0, .int .i64 0, .int .i64 0], .agg #[.string ⟨#[]⟩, .int .i64 0, .int .i64 0, .int .i64 0], .agg #[.int .i64 0, .int .i64 0, .int .i64 0, .int .i64 0, .int .i64 0]] rfl (by kernel_rfl) (by kernel_rfl) (by kernel_rfl)
      (OpenSpec.preRow_of_cond 8 hx (by kernel_rfl) (fun k hk => by cases hk) (by kernel_rfl) (liftTwo_laid os))) ?_
  intro W base args ds gs before hval hW _ _ _ hL hSh _
  exact liftTwo_contract H enc W base args ds gs before hval hW hL hSh
theorem liftTwo_said : Rows.LiftTwoSaid :=
  OpenClaim.holds_of_cond 8 Tryd.f8 rfl rfl rfl rfl rfl rfl rfl ⟨rfl, rfl, rfl, rfl, rfl⟩ rfl rfl rfl rfl rfl (by kernel_rfl) Tryd.func8 (by kernel_rfl)
    (of_decide_eq_true (by kernel_rfl)) (by unfold Func.isWrapper; rw [if_neg (of_decide_eq_false (by kernel_rfl))]; exact ⟨rfl, rfl⟩)
    (fun os started H enc _ F => by rw [OpenClaim.pre_eq_preRow]; exact liftTwo_lifted os started H enc F)
theorem liftTwo_plain (f : FuncId) (fn : Func) (hf : Tryd.pinned.checked.prog.funcNamed "shipyard/shipyardlaw50.LiftTwo" = some f) (hfn : Tryd.pinned.checked.prog.funcs[f]? = some fn) :
    false = Tryd.pinned.checked.prog.looks [] ∧ ∀ (j : Nat) t, fn.params[j]? = some t → Tryd.pinned.checked.prog.wantsStandIn t = false := by
  obtain rfl : f = 8 := Option.some.inj ((show Tryd.prog.funcNamed "shipyard/shipyardlaw50.LiftTwo" = some 8 by kernel_rfl).symm.trans hf) |>.symm
  obtain rfl : fn = Tryd.f8 := (Option.some.inj (Tryd.func8.symm.trans hfn)).symm
  refine ⟨by kernel_rfl, fun j t ht => ?_⟩
  rw [Tryd.params8] at ht
  have hm : t ∈ [42, 42, 23] := by simpa using Array.mem_of_getElem? ht
  have hall : ([42, 42, 23].all fun u => !Tryd.prog.wantsStandIn u) = true := by kernel_rfl
  exact (show Tryd.prog.wantsStandIn t = false by simpa using List.all_eq_true.1 hall t hm)
/-- the card -/
theorem liftTwo_card : Rows.LiftTwoCardSaid :=
  Claim7.holds_tied_plain_at .later [] _ _ _ _ liftTwo_said (fun _ h => by cases h) (by kernel_rfl) (fun _ h => by cases h) liftTwo_row_tie rfl ⟨rfl, rfl⟩ (by kernel_rfl) rfl liftTwo_plain (by kernel_rfl)
#print axioms liftTwo_card
end Go.Proofs.YtjgpgfnnbfgkiaaDoor
