/-
  The law CableRoutes. Conditions: as stated. By an AI agent.
-/
import Derived.Test.YtpkgadjglidnaaaDoorCabT
import Derived.Test.YtpkgadjglidnaaaDoorCabV
import Derived.Test.YtpkgadjglidnaaaDoorCabH
namespace Go.Proofs.YtpkgadjglidnaaaDoor
open Go Go.ChangeShapes Go.WideShapes Go.RowKit Go.ChangeAt
set_option linter.unusedVariables false
set_option linter.unusedSimpArgs false

set_option maxHeartbeats 8000000 in
set_option maxRecDepth 20000 in
theorem cableRoutes_walk (v u : Value) (n nu : Nat) (T : Nat → Tr) (F : Nat → Int) (ci : ByteArray) (cf ct cs : Int) (w : World) (ht : TraysAt w v n T) (hu : IntsAt w u nu F) (hml : MaxLenIs w) : Calls Tryd.prog 4 #[v, u, .agg #[.string ci, .int .i64 cf, .int .i64 ct, .int .i64 cs]] w fun e w' => e = .returned (.bool true) ∧ Below w.heap.size w w' := by
  have HML := Lib.hid hml
  clear hml
  have hBw : Below w.heap.size w w := Below.refl _ _
  have HT := Lib.hid ht
  have HU := Lib.hid hu
  obtain ⟨ou, cu, rfl, -, -⟩ := hu.form
  clear ht hu
  obtain ⟨GR, hGR⟩ : ∃ b, greatB n 1 (fun _ => ⟨ci, cf, ct, cs⟩) = b := ⟨_, rfl⟩
  have HGR := Lib.hid hGR
  clear hGR
  obtain ⟨E, hE⟩ : ∃ e, routeErr n T nu F ⟨ci, cf, ct, cs⟩ = e := ⟨_, rfl⟩
  obtain ⟨D, hD⟩ : ∃ e, routeD n T nu F ⟨ci, cf, ct, cs⟩ = e := ⟨_, rfl⟩
  obtain ⟨P, hP⟩ : ∃ e, routeP n T nu F ⟨ci, cf, ct, cs⟩ = e := ⟨_, rfl⟩
  have HL1 : Hid (ci.size ≤ 200 → ∀ W u c, TraysAt W u n T → IntsAt W c nu F → MaxLenIs W → Calls Tryd.prog 16 #[u, c, .agg #[.string ci, .int .i64 cf, .int .i64 ct, .int .i64 cs]] W fun e w' => ∃ pv, e = .returned (.tuple #[pv, .int .i64 D, .int .i64 E]) ∧ PathAt w' pv P ∧ Below W.heap.size W w') := fun hs W u c h1 h2 h3 => by
    refine (route_any u c n nu T F ci cf ct cs W h1 h2 hs h3).mono ?_
    rintro e w' ⟨pv, rfl, h4, -, hb⟩
    rw [hD, hE]
    rw [hP] at h4
    exact ⟨pv, rfl, h4, hb⟩
  have HL2 : Hid (ci.size ≤ 200 → ∀ W u c, TraysAt W u n T → IntsAt W c nu F → Calls Tryd.prog 17 #[u, c, .agg #[.string ci, .int .i64 cf, .int .i64 ct, .int .i64 cs]] W fun e w' => ∃ pv, e = .returned (.tuple #[pv, .int .i64 D, .int .i64 E]) ∧ PathAt w' pv P ∧ Below W.heap.size W w') := fun hs W u c h1 h2 => by
    refine (rRoute_any u c n nu T F ci cf ct cs W h1 h2 hs).mono ?_
    rintro e w' ⟨pv, rfl, h4, -, hb⟩
    rw [hD, hE]
    rw [hP] at h4
    exact ⟨pv, rfl, h4, hb⟩
  clear hE hD hP
  go_enter Tryd.func4, Tryd.ntmps4
  go_wp2_with fail
  obtain ⟨w2, hw2⟩ : ∃ x, ((w.alloc (.cells #[.string ci, .int .i64 cf, .int .i64 ct, .int .i64 cs] 34)).alloc (.cells #[.string ci, .int .i64 cf, .int .i64 ct, .int .i64 cs] 34)) = x := ⟨_, rfl⟩
  have HBX : Hid (Blk w2 w.heap.size #[.string ci, .int .i64 cf, .int .i64 ct, .int .i64 cs] 34) := by
    show _ = _
    rw [← hw2]
    exact (heapA_old _ _ _ (by simp)).trans (heapA_at _ _ _ rfl)
  have HB1 : Hid (Blk w2 (w.heap.size + 1) #[.string ci, .int .i64 cf, .int .i64 ct, .int .i64 cs] 34) := by
    show _ = _
    rw [← hw2]
    exact heapA_at _ _ _ (by simp)
  have hBw2 : Below w.heap.size w w2 := by rw [← hw2]; exact (((Below.refl w.heap.size w).alloc (Nat.le_refl _) _).alloc (by simp) _)
  rw [hw2]
  clear hw2
  replace HML := Lib.hid (HML.out.below hBw2)
  replace HT := Lib.hid (HT.out.below hBw2)
  replace HU := Lib.hid (HU.out.below hBw2)
  (go_at_call 10; refine (great_any _ _ n 1 T (fun _ => ⟨ci, cf, ct, cs⟩) _ HT.out (one_cab w2 (w.heap.size + 1) ci cf ct cs 34 HB1.out)).mono ?_; rintro e_ w3 ⟨rfl, hb⟩)
  have hPw3 : Below w2.heap.size w2 w3 := below_step (w := w2) (by first | exact Below.refl _ _ | go_grown) hb
  have hBw3 : Below w.heap.size w w3 := below_step hBw2 hPw3
  replace HML := Lib.hid (HML.out.below hPw3)
  replace HT := Lib.hid (HT.out.below hPw3)
  replace HU := Lib.hid (HU.out.below hPw3)
  replace HBX := Lib.hid (HBX.out.below hPw3)
  rw [HGR.out]
  clear HB1
  clear hb hPw3 hBw2
  cases GR
  rotate_left
  · go_wp2_with fail
    (go_at_call 11; refine (alive_any _ (HML.out.below (by first | exact Below.refl _ _ | (show Below w3.heap.size w3 _; go_grown)))).mono ?_; rintro e_ wz ⟨rfl, hb⟩)
    have hPwz : Below w3.heap.size w3 wz := below_step (w := w3) (by first | exact Below.refl _ _ | go_grown) hb
    have hBwz : Below w.heap.size w wz := below_step hBw3 hPwz
    clear hb hPwz hBw3
    go_wp2
    go_returns
    exact ⟨rfl, hBwz⟩
  have hs := (greatB_no HGR.out).2.2 0 (by omega)
  by_cases h70 : 70 < nu
  · have k7 : decide ((70 : Int) < (nu : Int)) = true := decide_eq_true (by omega)
    go_wp2_with fail
    (go_at_call 11; refine (alive_any _ (HML.out.below (by first | exact Below.refl _ _ | (show Below w3.heap.size w3 _; go_grown)))).mono ?_; rintro e_ wz ⟨rfl, hb⟩)
    have hPwz : Below w3.heap.size w3 wz := below_step (w := w3) (by first | exact Below.refl _ _ | go_grown) hb
    have hBwz : Below w.heap.size w wz := below_step hBw3 hPwz
    clear hb hPwz hBw3
    go_wp2
    go_returns
    exact ⟨rfl, hBwz⟩
  have k7 : decide ((70 : Int) < (nu : Int)) = false := decide_eq_false (by omega)
  clear h70
  obtain ⟨x0, x1, x2, x3, xf, xs⟩ := cells_at4 (show _ = _ from HBX.out)
  go_wp2_with fail
  (go_at_call 16; refine (HL1.out hs _ _ _ (HT.out.below (by first | exact Below.refl _ _ | (show Below w3.heap.size w3 _; go_grown))) (HU.out.below (by first | exact Below.refl _ _ | (show Below w3.heap.size w3 _; go_grown))) (HML.out.below (by first | exact Below.refl _ _ | (show Below w3.heap.size w3 _; go_grown)))).mono ?_; rintro e_ w4 ⟨p1, rfl, hp1, hb⟩)
  have hPw4 : Below w3.heap.size w3 w4 := below_step (w := w3) (by first | exact Below.refl _ _ | go_grown) hb
  have hBw4 : Below w.heap.size w w4 := below_step hBw3 hPw4
  replace HML := Lib.hid (HML.out.below hPw4)
  replace HT := Lib.hid (HT.out.below hPw4)
  replace HU := Lib.hid (HU.out.below hPw4)
  replace HBX := Lib.hid (HBX.out.below hPw4)
  have HP1 := Lib.hid hp1
  clear hp1
  clear x0 x1 x2 x3 xf xs
  clear hb hPw4 hBw3
  obtain ⟨x0, x1, x2, x3, xf, xs⟩ := cells_at4 (show _ = _ from HBX.out)
  go_wp2_with fail
  (go_at_call 17; refine (HL2.out hs _ _ _ (HT.out.below (by first | exact Below.refl _ _ | (show Below w4.heap.size w4 _; go_grown))) (HU.out.below (by first | exact Below.refl _ _ | (show Below w4.heap.size w4 _; go_grown)))).mono ?_; rintro e_ w5 ⟨p2, rfl, hp2, hb⟩)
  have hPw5 : Below w4.heap.size w4 w5 := below_step (w := w4) (by first | exact Below.refl _ _ | go_grown) hb
  have hBw5 : Below w.heap.size w w5 := below_step hBw4 hPw5
  replace HML := Lib.hid (HML.out.below hPw5)
  replace HT := Lib.hid (HT.out.below hPw5)
  replace HU := Lib.hid (HU.out.below hPw5)
  replace HBX := Lib.hid (HBX.out.below hPw5)
  replace HP1 := Lib.hid (HP1.out.below hPw5)
  have HP2 := Lib.hid hp2
  clear hp2
  clear x0 x1 x2 x3 xf xs
  clear hb hPw5 hBw4
  go_wp2_with fail
  (go_at_call 18; refine (intsEq_any _ _ P.length (pathF P) _ (HP1.out.below (by first | exact Below.refl _ _ | (show Below w5.heap.size w5 _; go_grown))) (HP2.out.below (by first | exact Below.refl _ _ | (show Below w5.heap.size w5 _; go_grown)))).mono ?_; rintro e_ w6 ⟨rfl, hb⟩)
  have hPw6 : Below w5.heap.size w5 w6 := below_step (w := w5) (by first | exact Below.refl _ _ | go_grown) hb
  have hBw6 : Below w.heap.size w w6 := below_step hBw5 hPw6
  replace HML := Lib.hid (HML.out.below hPw6)
  replace HT := Lib.hid (HT.out.below hPw6)
  replace HU := Lib.hid (HU.out.below hPw6)
  replace HBX := Lib.hid (HBX.out.below hPw6)
  replace HP1 := Lib.hid (HP1.out.below hPw6)
  replace HP2 := Lib.hid (HP2.out.below hPw6)
  clear hb hPw6 hBw5
  go_wp2_with fail
  (go_at_call 11; refine (alive_any _ (HML.out.below (by first | exact Below.refl _ _ | (show Below w6.heap.size w6 _; go_grown)))).mono ?_; rintro e_ wz ⟨rfl, hb⟩)
  have hPwz : Below w6.heap.size w6 wz := below_step (w := w6) (by first | exact Below.refl _ _ | go_grown) hb
  have hBwz : Below w.heap.size w wz := below_step hBw6 hPwz
  clear hb hPwz hBw6
  go_wp2
  go_returns
  exact ⟨rfl, hBwz⟩

set_option maxRecDepth 100000 in
theorem cableRoutes_contract (H : Type) (enc : TypeId × Value → H) (W : World) (base : Nat) (args : Array Value) (ds gs : List (DataW H)) (before : List MemPlace)
    (hval : ∀ (j : Nat) t v, Tryd.f4.params[j]? = some t → args[j]? = some v → Value.okWide Tryd.prog W .any base t v)
    (hW : DataW.Whole enc Tryd.prog Tryd.f4.params.toList Rows.cableRoutesSpec.vars false W args.toList ds gs before) (hL : laidMetH Tryd.prog Rows.cableRoutesRow.laid W) (hSh : W.ShapedOpen Tryd.prog) :
    Calls Tryd.prog 4 args W fun e W' => ∃ v, e = .returned v ∧ Rows.cableRoutesSpec.post enc Tryd.prog Tryd.f4 false true false false W args v W' := by
  have hW' := hW
  obtain ⟨p, q, hA0, hV, rfl, hfz, hnd⟩ := hW
  have hA : DataW.TrodAll enc Tryd.prog W 0 (fun _ => true) true Tryd.f4.params.toList args.toList ds p := hA0
  rw [Tryd.params4] at hA hval
  obtain ⟨v0, vs0, d0, ds0, p0, q0, hargs, rfl, rfl, h0, r0⟩ := trodAll_cons hA
  obtain ⟨v1, vs1, d1, ds1, p1, q1, rfl, rfl, rfl, h1, r1⟩ := trodAll_cons r0
  obtain ⟨v2, vs2, d2, ds2, p2, q2, rfl, rfl, rfl, h2, r2⟩ := trodAll_cons r1
  obtain ⟨rfl, rfl, rfl⟩ := trodAll_nil r2
  obtain rfl : args = #[v0, v1, v2] := by cases args; simp_all
  obtain ⟨n, T, ht⟩ := trays_arg (hval 0 22 v0 rfl rfl) h0
  obtain ⟨nu, F, hu⟩ := ints_arg (hval 1 32 v1 rfl rfl) h1
  obtain ⟨ci, cf, ct, cs, rfl⟩ := cable_arg (hval 2 34 v2 rfl rfl) h2
  refine (cableRoutes_walk _ _ n nu T F ci cf ct cs W ht hu (maxLen_of W hSh)).mono fun e W' ⟨he, hb⟩ => ?_
  subst he
  exact ⟨_, rfl, law_post laidOut (by kernel_rfl) (by kernel_rfl) Tryd.underlying4 rfl hW' (fun _ => rfl) hb⟩
theorem cableRoutes_laid (os : Os) : laidMet Tryd.prog Rows.cableRoutesRow.laid ((laidWorld os).forCall (fun _ _ => 0) ⟨#[], #[.slice none 0 0, .slice none 0 0, .agg #[.string ⟨#[]⟩, .int .i64 0, .int .i64 0, .int .i64 0]], []⟩).memory := laidMet_of_run' 8 (by kernel_rfl) (by kernel_rfl)
theorem cableRoutes_reads (os : Os) {H : Type} (enc : TypeId × Value → H) : ∃ places, DataW.whole enc Tryd.prog ((laidWorld os).forCall (fun _ _ => 0) ⟨#[], #[.slice none 0 0, .slice none 0 0, .agg #[.string ⟨#[]⟩, .int .i64 0, .int .i64 0, .int .i64 0]], []⟩).memory Tryd.f4.params.toList Rows.cableRoutesSpec.vars false (#[.slice none 0 0, .slice none 0 0, .agg #[.string ⟨#[]⟩, .int .i64 0, .int .i64 0, .int .i64 0]] : Array Value).toList 8 = some ([.nil, .nil, .agg [.lit (.string []), .lit (.int .i64 0), .lit (.int .i64 0), .lit (.int .i64 0)]], [], places) := ⟨[], by kernel_rfl⟩
set_option maxRecDepth 100000 in
theorem cableRoutes_lifted (os : Os) (started : os.Started) (H : Type) (enc : TypeId × Value → H) (F : Stop.Interp) :
    ReturnsInHanded {} Tryd.checked os 4 .any ((OpenSpec.ofChange Rows.cableRoutesSpec).preRow enc Tryd.prog Tryd.f4 Rows.cableRoutesRow.domain false Rows.cableRoutesRow.laid) (((OpenSpec.ofChange Rows.cableRoutesSpec).at F).post enc Tryd.prog Tryd.f4 false true false false) := by
  obtain ⟨places, hx⟩ := cableRoutes_reads os enc
  refine returnsInHanded_of_row (C := Tryd.checked) (s := OpenSpec.ofChange Rows.cableRoutesSpec) own started (by kernel_rfl) Tryd.func4
    (witness_row_at (enc := enc) (C := Tryd.checked) false (laidWorld os) #[.slice none 0 0, .slice none 0 0, .agg #[.string ⟨#[]⟩, .int .i64 0, .int .i64 0, .int .i64 0]] rfl (by kernel_rfl) (by kernel_rfl) (by kernel_rfl)
      (OpenSpec.preRow_of_cond 8 hx (by kernel_rfl) (fun k hk => by cases hk) (by kernel_rfl) (cableRoutes_laid os))) ?_
  intro W base args ds gs before hval hW _ _ _ hL hSh _
  exact cableRoutes_contract H enc W base args ds gs before hval hW hL hSh
theorem cableRoutes_said : Rows.CableRoutesSaid :=
  OpenClaim.holds_of_cond 4 Tryd.f4 rfl rfl rfl rfl rfl rfl rfl ⟨rfl, rfl, rfl, rfl, rfl⟩ rfl rfl rfl rfl rfl (by kernel_rfl) Tryd.func4 (by kernel_rfl)
    (of_decide_eq_true (by kernel_rfl)) (by unfold Func.isWrapper; rw [if_neg (of_decide_eq_false (by kernel_rfl))]; exact ⟨rfl, rfl⟩)
    (fun os started H enc _ F => by rw [OpenClaim.pre_eq_preRow]; exact cableRoutes_lifted os started H enc F)
theorem cableRoutes_plain (f : FuncId) (fn : Func) (hf : Tryd.pinned.checked.prog.funcNamed "shipyard/shipyardlaw45.CableRoutes" = some f) (hfn : Tryd.pinned.checked.prog.funcs[f]? = some fn) :
    false = Tryd.pinned.checked.prog.looks [] ∧ ∀ (j : Nat) t, fn.params[j]? = some t → Tryd.pinned.checked.prog.wantsStandIn t = false := by
  obtain rfl : f = 4 := Option.some.inj ((show Tryd.prog.funcNamed "shipyard/shipyardlaw45.CableRoutes" = some 4 by kernel_rfl).symm.trans hf) |>.symm
  obtain rfl : fn = Tryd.f4 := (Option.some.inj (Tryd.func4.symm.trans hfn)).symm
  refine ⟨by kernel_rfl, fun j t ht => ?_⟩
  rw [Tryd.params4] at ht
  have hm : t ∈ [22, 32, 34] := by simpa using Array.mem_of_getElem? ht
  have hall : ([22, 32, 34].all fun u => !Tryd.prog.wantsStandIn u) = true := by kernel_rfl
  exact (show Tryd.prog.wantsStandIn t = false by simpa using List.all_eq_true.1 hall t hm)
/-- the card -/
theorem cableRoutes_card : Rows.CableRoutesCardSaid :=
  Claim7.holds_tied_plain_at .later [] _ _ _ _ cableRoutes_said (fun _ h => by cases h) (by kernel_rfl) (fun _ h => by cases h) cableRoutes_row_tie rfl ⟨rfl, rfl⟩ (by kernel_rfl) rfl cableRoutes_plain (by kernel_rfl)
#print axioms cableRoutes_card
end Go.Proofs.YtpkgadjglidnaaaDoor
