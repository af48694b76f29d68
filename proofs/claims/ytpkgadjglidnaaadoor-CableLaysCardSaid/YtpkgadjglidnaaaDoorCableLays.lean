/-
  The law CableLays. Conditions: as stated. By an AI agent.
-/
import Derived.Test.YtpkgadjglidnaaaDoorCabT
import Derived.Test.YtpkgadjglidnaaaDoorCabV
import Derived.Test.YtpkgadjglidnaaaDoorCabK
namespace Go.Proofs.YtpkgadjglidnaaaDoor
open Go Go.ChangeShapes Go.WideShapes Go.RowKit Go.ChangeAt
set_option linter.unusedVariables false
set_option linter.unusedSimpArgs false

set_option maxHeartbeats 8000000 in
set_option maxRecDepth 20000 in
theorem cableLays_walk (v c : Value) (n m : Nat) (T : Nat → Tr) (C : Nat → Cb) (w : World) (ht : TraysAt w v n T) (hc : CabsAt w c m C) (hml : MaxLenIs w) : Calls Tryd.prog 5 #[v, c] w fun e w' => e = .returned (.bool true) ∧ Below w.heap.size w w' := by
  have HML := Lib.hid hml
  clear hml
  have hBw : Below w.heap.size w w := Below.refl _ _
  have HT := Lib.hid ht
  have HC := Lib.hid hc
  clear ht hc
  obtain ⟨GR, hGR⟩ : ∃ b, greatB n m C = b := ⟨_, rfl⟩
  have HGR := Lib.hid hGR
  clear hGR
  go_enter Tryd.func5, Tryd.ntmps5
  go_wp2_with fail
  (go_at_call 10; refine (great_any _ _ n m T C _ HT.out HC.out).mono ?_; rintro e_ w1 ⟨rfl, hb⟩)
  have hPw1 : Below w.heap.size w w1 := below_step (w := w) (by first | exact Below.refl _ _ | go_grown) hb
  have hBw1 : Below w.heap.size w w1 := below_step hBw hPw1
  replace HML := Lib.hid (HML.out.below hPw1)
  replace HT := Lib.hid (HT.out.below hPw1)
  replace HC := Lib.hid (HC.out.below hPw1)
  rw [HGR.out]
  clear hb hPw1 hBw
  cases GR
  rotate_left
  · go_wp2_with fail
    (go_at_call 11; refine (alive_any _ (HML.out.below (by first | exact Below.refl _ _ | (show Below w1.heap.size w1 _; go_grown)))).mono ?_; rintro e_ wz ⟨rfl, hb⟩)
    have hPwz : Below w1.heap.size w1 wz := below_step (w := w1) (by first | exact Below.refl _ _ | go_grown) hb
    have hBwz : Below w.heap.size w wz := below_step hBw1 hPwz
    clear hb hPwz hBw1
    go_wp2
    go_returns
    exact ⟨rfl, hBwz⟩
  obtain ⟨hn, hm, hs⟩ := greatB_no HGR.out
  have HS := Lib.hid hs
  obtain ⟨E, hE⟩ : ∃ e, layErr n T m C = e := ⟨_, rfl⟩
  have HE := Lib.hid hE
  have HL1 : Hid (∀ W u c, TraysAt W u n T → CabsAt W c m C → MaxLenIs W → Calls Tryd.prog 19 #[u, c] W fun e w' => ∃ lv, e = .returned (.tuple #[lv, .int .i64 E]) ∧ PathsAt w' lv (okN E m) (layP n T C) ∧ Below W.heap.size W w') := fun W u c h1 h2 h3 => by
    have h := lay_any u c n m T C W h1 h2 HS.out h3
    rw [hE] at h
    exact h
  have HL2 : Hid (∀ W u c, TraysAt W u n T → CabsAt W c m C → Calls Tryd.prog 20 #[u, c] W fun e w' => ∃ lv, e = .returned (.tuple #[lv, .int .i64 E]) ∧ PathsAt w' lv (okN E m) (layP n T C) ∧ Below W.heap.size W w') := fun W u c h1 h2 => by
    have h := rLay_any u c n m T C W h1 h2 HS.out
    rw [hE] at h
    exact h
  clear hE hs
  go_wp2_with fail
  (go_at_call 19; refine (HL1.out _ _ _ (HT.out.below (by first | exact Below.refl _ _ | (show Below w1.heap.size w1 _; go_grown))) (HC.out.below (by first | exact Below.refl _ _ | (show Below w1.heap.size w1 _; go_grown))) (HML.out.below (by first | exact Below.refl _ _ | (show Below w1.heap.size w1 _; go_grown)))).mono ?_; rintro e_ w2 ⟨l1, rfl, hp1, hb⟩)
  have hPw2 : Below w1.heap.size w1 w2 := below_step (w := w1) (by first | exact Below.refl _ _ | go_grown) hb
  have hBw2 : Below w.heap.size w w2 := below_step hBw1 hPw2
  replace HML := Lib.hid (HML.out.below hPw2)
  replace HT := Lib.hid (HT.out.below hPw2)
  replace HC := Lib.hid (HC.out.below hPw2)
  have HP1 := Lib.hid hp1
  clear hp1
  clear hb hPw2 hBw1
  go_wp2_with fail
  (go_at_call 20; refine (HL2.out _ _ _ (HT.out.below (by first | exact Below.refl _ _ | (show Below w2.heap.size w2 _; go_grown))) (HC.out.below (by first | exact Below.refl _ _ | (show Below w2.heap.size w2 _; go_grown)))).mono ?_; rintro e_ w3 ⟨l2, rfl, hp2, hb⟩)
  have hPw3 : Below w2.heap.size w2 w3 := below_step (w := w2) (by first | exact Below.refl _ _ | go_grown) hb
  have hBw3 : Below w.heap.size w w3 := below_step hBw2 hPw3
  replace HML := Lib.hid (HML.out.below hPw3)
  replace HT := Lib.hid (HT.out.below hPw3)
  replace HC := Lib.hid (HC.out.below hPw3)
  replace HP1 := Lib.hid (HP1.out.below hPw3)
  have HP2 := Lib.hid hp2
  clear hp2
  clear hb hPw3 hBw2
  go_wp2_with fail
  (go_at_call 21; refine (sameEq_any _ _ (okN E m) (fun k => (layP n T C k).length) (fun k => pathF (layP n T C k)) _ (HP1.out.below (by first | exact Below.refl _ _ | (show Below w3.heap.size w3 _; go_grown))) (HP2.out.below (by first | exact Below.refl _ _ | (show Below w3.heap.size w3 _; go_grown)))).mono ?_; rintro e_ w4 ⟨rfl, hb⟩)
  have hPw4 : Below w3.heap.size w3 w4 := below_step (w := w3) (by first | exact Below.refl _ _ | go_grown) hb
  have hBw4 : Below w.heap.size w w4 := below_step hBw3 hPw4
  replace HML := Lib.hid (HML.out.below hPw4)
  replace HT := Lib.hid (HT.out.below hPw4)
  replace HC := Lib.hid (HC.out.below hPw4)
  replace HP1 := Lib.hid (HP1.out.below hPw4)
  replace HP2 := Lib.hid (HP2.out.below hPw4)
  clear hb hPw4 hBw3
  go_wp2_with fail
  (go_at_call 11; refine (alive_any _ (HML.out.below (by first | exact Below.refl _ _ | (show Below w4.heap.size w4 _; go_grown)))).mono ?_; rintro e_ wz ⟨rfl, hb⟩)
  have hPwz : Below w4.heap.size w4 wz := below_step (w := w4) (by first | exact Below.refl _ _ | go_grown) hb
  have hBwz : Below w.heap.size w wz := below_step hBw4 hPwz
  clear hb hPwz hBw4
  go_wp2
  go_returns
  exact ⟨rfl, hBwz⟩

set_option maxRecDepth 100000 in
theorem cableLays_contract (H : Type) (enc : TypeId × Value → H) (W : World) (base : Nat) (args : Array Value) (ds gs : List (DataW H)) (before : List MemPlace)
    (hval : ∀ (j : Nat) t v, Tryd.f5.params[j]? = some t → args[j]? = some v → Value.okWide Tryd.prog W .any base t v)
    (hW : DataW.Whole enc Tryd.prog Tryd.f5.params.toList Rows.cableLaysSpec.vars false W args.toList ds gs before) (hL : laidMetH Tryd.prog Rows.cableLaysRow.laid W) (hSh : W.ShapedOpen Tryd.prog) :
    Calls Tryd.prog 5 args W fun e W' => ∃ v, e = .returned v ∧ Rows.cableLaysSpec.post enc Tryd.prog Tryd.f5 false true false false W args v W' := by
  have hW' := hW
  obtain ⟨p, q, hA0, hV, rfl, hfz, hnd⟩ := hW
  have hA : DataW.TrodAll enc Tryd.prog W 0 (fun _ => true) true Tryd.f5.params.toList args.toList ds p := hA0
  rw [Tryd.params5] at hA hval
  obtain ⟨v0, vs0, d0, ds0, p0, q0, hargs, rfl, rfl, h0, r0⟩ := trodAll_cons hA
  obtain ⟨v1, vs1, d1, ds1, p1, q1, rfl, rfl, rfl, h1, r1⟩ := trodAll_cons r0
  obtain ⟨rfl, rfl, rfl⟩ := trodAll_nil r1
  obtain rfl : args = #[v0, v1] := by cases args; simp_all
  obtain ⟨n, T, ht⟩ := trays_arg (hval 0 22 v0 rfl rfl) h0
  obtain ⟨m, C, hc⟩ := cabs_arg (hval 1 23 v1 rfl rfl) h1
  refine (cableLays_walk _ _ n m T C W ht hc (maxLen_of W hSh)).mono fun e W' ⟨he, hb⟩ => ?_
  subst he
  exact ⟨_, rfl, law_post laidOut (by kernel_rfl) (by kernel_rfl) Tryd.underlying4 rfl hW' (fun _ => rfl) hb⟩
theorem cableLays_laid (os : Os) : laidMet Tryd.prog Rows.cableLaysRow.laid ((laidWorld os).forCall (fun _ _ => 0) ⟨#[], #[.slice none 0 0, .slice none 0 0], []⟩).memory := laidMet_of_run' 8 (by kernel_rfl) (by kernel_rfl)
theorem cableLays_reads (os : Os) {H : Type} (enc : TypeId × Value → H) : ∃ places, DataW.whole enc Tryd.prog ((laidWorld os).forCall (fun _ _ => 0) ⟨#[], #[.slice none 0 0, .slice none 0 0], []⟩).memory Tryd.f5.params.toList Rows.cableLaysSpec.vars false (#[.slice none 0 0, .slice none 0 0] : Array Value).toList 8 = some ([.nil, .nil], [], places) := ⟨[], by kernel_rfl⟩
set_option maxRecDepth 100000 in
theorem cableLays_lifted (os : Os) (started : os.Started) (H : Type) (enc : TypeId × Value → H) (F : Stop.Interp) :
    ReturnsInHanded {} Tryd.checked os 5 .any ((OpenSpec.ofChange Rows.cableLaysSpec).preRow enc Tryd.prog Tryd.f5 Rows.cableLaysRow.domain false Rows.cableLaysRow.laid) (((OpenSpec.ofChange Rows.cableLaysSpec).at F).post enc Tryd.prog Tryd.f5 false true false false) := by
  obtain ⟨places, hx⟩ := cableLays_reads os enc
  refine returnsInHanded_of_row (C := Tryd.checked) (s := OpenSpec.ofChange Rows.cableLaysSpec) own started (by kernel_rfl) Tryd.func5
    (witness_row_at (enc := enc) (C := Tryd.checked) false (laidWorld os) #[.slice none 0 0, .slice none 0 0] rfl (by kernel_rfl) (by kernel_rfl) (by kernel_rfl)
      (OpenSpec.preRow_of_cond 8 hx (by kernel_rfl) (fun k hk => by cases hk) (by kernel_rfl) (cableLays_laid os))) ?_
  intro W base args ds gs before hval hW _ _ _ hL hSh _
  exact cableLays_contract H enc W base args ds gs before hval hW hL hSh
theorem cableLays_said : Rows.CableLaysSaid :=
  OpenClaim.holds_of_cond 5 Tryd.f5 rfl rfl rfl rfl rfl rfl rfl ⟨rfl, rfl, rfl, rfl, rfl⟩ rfl rfl rfl rfl rfl (by kernel_rfl) Tryd.func5 (by kernel_rfl)
    (of_decide_eq_true (by kernel_rfl)) (by unfold Func.isWrapper; rw [if_neg (of_decide_eq_false (by kernel_rfl))]; exact ⟨rfl, rfl⟩)
    (fun os started H enc _ F => by rw [OpenClaim.pre_eq_preRow]; exact cableLays_lifted os started H enc F)
theorem cableLays_plain (f : FuncId) (fn : Func) (hf : Tryd.pinned.checked.prog.funcNamed "shipyard/shipyardlaw45.CableLays" = some f) (hfn : Tryd.pinned.checked.prog.funcs[f]? = some fn) :
    false = Tryd.pinned.checked.prog.looks [] ∧ ∀ (j : Nat) t, fn.params[j]? = some t → Tryd.pinned.checked.prog.wantsStandIn t = false := by
  obtain rfl : f = 5 := Option.some.inj ((show Tryd.prog.funcNamed "shipyard/shipyardlaw45.CableLays" = some 5 by kernel_rfl).symm.trans hf) |>.symm
  obtain rfl : fn = Tryd.f5 := (Option.some.inj (Tryd.func5.symm.trans hfn)).symm
  refine ⟨by kernel_rfl, fun j t ht => ?_⟩
  rw [Tryd.params5] at ht
  have hm : t ∈ [22, 23] := by simpa using Array.mem_of_getElem? ht
  have hall : ([22, 23].all fun u => !Tryd.prog.wantsStandIn u) = true := by kernel_rfl
  exact (show Tryd.prog.wantsStandIn t = false by simpa using List.all_eq_true.1 hall t hm)
/-- the card -/
theorem cableLays_card : Rows.CableLaysCardSaid :=
  Claim7.holds_tied_plain_at .later [] _ _ _ _ cableLays_said (fun _ h => by cases h) (by kernel_rfl) (fun _ h => by cases h) cableLays_row_tie rfl ⟨rfl, rfl⟩ (by kernel_rfl) rfl cableLays_plain (by kernel_rfl)
#print axioms cableLays_card
end Go.Proofs.YtpkgadjglidnaaaDoor
