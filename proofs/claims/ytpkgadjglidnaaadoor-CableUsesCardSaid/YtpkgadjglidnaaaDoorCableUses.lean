/-
  The law CableUses. Conditions: as stated. By an AI agent.
-/
import Derived.Test.YtpkgadjglidnaaaDoorCabT
import Derived.Test.YtpkgadjglidnaaaDoorCabV
import Derived.Test.YtpkgadjglidnaaaDoorCabQ
namespace Go.Proofs.YtpkgadjglidnaaaDoor
open Go Go.ChangeShapes Go.WideShapes Go.RowKit Go.ChangeAt
set_option linter.unusedVariables false
set_option linter.unusedSimpArgs false

set_option maxHeartbeats 8000000 in
set_option maxRecDepth 20000 in
theorem cableUses_walk (v c p : Value) (n m mp : Nat) (T : Nat → Tr) (C : Nat → Cb) (L : Nat → Nat) (f : Nat → Nat → Int) (w : World) (ht : TraysAt w v n T) (hc : CabsAt w c m C) (hp : IPathsAt w p mp L f) (hml : MaxLenIs w) : Calls Tryd.prog 6 #[v, c, p] w fun e w' => e = .returned (.bool true) ∧ Below w.heap.size w w' := by
  have HML := Lib.hid hml
  clear hml
  have hBw : Below w.heap.size w w := Below.refl _ _
  have HT := Lib.hid ht
  have HC := Lib.hid hc
  have HP := Lib.hid hp
  obtain ⟨pv, hp1, hp2⟩ := hp
  obtain ⟨oc, cc, rfl, hn2, hn3, hps⟩ := hp1
  have HPS : Hid (∀ k, k < mp → ∃ b off, oc = some ⟨b, off, none⟩ ∧ b < w.heap.size ∧ ∀ q, q < mp → w.cell? ⟨b, off + q, none⟩ = some (pv q)) := fun k hk => by
    obtain ⟨b, off, e, hlt, hc⟩ := hps (by omega)
    exact ⟨b, off, e, hlt, fun q hq => by have := hc q 0 hq (by decide); simpa using this⟩
  have HPA := Lib.hid hp2
  clear ht hc hps hp2
  obtain ⟨GR, hGR⟩ : ∃ b, greatB n m C = b := ⟨_, rfl⟩
  have HGR := Lib.hid hGR
  clear hGR
  go_enter Tryd.func6, Tryd.ntmps6
  go_wp2_with fail
  (go_at_call 10; refine (great_any _ _ n m T C _ HT.out HC.out).mono ?_; rintro e_ w1 ⟨rfl, hb⟩)
  have hPw1 : Below w.heap.size w w1 := below_step (w := w) (by first | exact Below.refl _ _ | go_grown) hb
  have hBw1 : Below w.heap.size w w1 := below_step hBw hPw1
  replace HML := Lib.hid (HML.out.below hPw1)
  replace HT := Lib.hid (HT.out.below hPw1)
  replace HC := Lib.hid (HC.out.below hPw1)
  replace HP := Lib.hid (HP.out.below hPw1)
  rw [HGR.out]
  clear hb hPw1
  cases GR
  rotate_left
  · go_wp2_with fail
    (go_at_call 11; refine (alive_any _ (HML.out.below (by first | exact Below.refl _ _ | (show Below w1.heap.size w1 _; go_grown)))).mono ?_; rintro e_ wz ⟨rfl, hb⟩)
    have hPwz : Below w1.heap.size w1 wz := below_step (w := w1) (by first | exact Below.refl _ _ | go_grown) hb
    have hBwz : Below w.heap.size w wz := below_step hBw1 hPwz
    clear hb hPwz hBw1
    go_wp2
    go_returns
    exact ⟨rfl, hBwz⟩
  by_cases h70 : 70 < mp
  · have k7 : decide ((70 : Int) < (mp : Int)) = true := decide_eq_true (by omega)
    go_wp2_with fail
    (go_at_call 11; refine (alive_any _ (HML.out.below (by first | exact Below.refl _ _ | (show Below w1.heap.size w1 _; go_grown)))).mono ?_; rintro e_ wz ⟨rfl, hb⟩)
    have hPwz : Below w1.heap.size w1 wz := below_step (w := w1) (by first | exact Below.refl _ _ | go_grown) hb
    have hBwz : Below w.heap.size w wz := below_step hBw1 hPwz
    clear hb hPwz hBw1
    go_wp2
    go_returns
    exact ⟨rfl, hBwz⟩
  have k7 : decide ((70 : Int) < (mp : Int)) = false := decide_eq_false (by omega)
  obtain ⟨hn, hm, hs⟩ := greatB_no HGR.out
  have HS := Lib.hid hs
  obtain ⟨E, hE⟩ : ∃ e, usedErr n T m C mp L f = e := ⟨_, rfl⟩
  have HL1 : Hid (∀ W u c p, TraysAt W u n T → CabsAt W c m C → IPathsAt W p mp L f → MaxLenIs W → Calls Tryd.prog 22 #[u, c, p] W fun e w' => ∃ uv, e = .returned (.tuple #[uv, .int .i64 E]) ∧ IntsAt w' uv (okN E n) (usdU C L f m) ∧ Below W.heap.size W w') := fun W u c p h1 h2 h4 h3 => by
    have h := used_any u c p n m mp T C L f W h1 h2 h4 HS.out h3
    rw [hE] at h
    exact h
  have HL2 : Hid (∀ W u c p, TraysAt W u n T → CabsAt W c m C → IPathsAt W p mp L f → Calls Tryd.prog 23 #[u, c, p] W fun e w' => ∃ uv, e = .returned (.tuple #[uv, .int .i64 E]) ∧ IntsAt w' uv (okN E n) (usdU C L f m) ∧ Below W.heap.size W w') := fun W u c p h1 h2 h4 => by
    have h := rUsed_any u c p n m mp T C L f W h1 h2 h4 HS.out
    rw [hE] at h
    exact h
  clear hE hs h70
  go_wp2
  go_loopw [7] (fun i wr => ∃ k : Nat, k ≤ mp ∧ i = .int .i64 k ∧ Below w1.heap.size w1 wr) (fun i _ => mp - (intOf i).toNat)
  case atStart => exact ⟨0, by omega, rfl, Below.refl _ _⟩
  case round =>
    obtain ⟨w3, rfl⟩ : ∃ x : World, x = wr := ⟨_, rfl⟩
    obtain ⟨k, hk, rfl, hB13⟩ := hrel
    have hBw3 : Below w.heap.size w w3 := below_step hBw1 hB13
    replace HML := Lib.hid (HML.out.below hB13)
    replace HT := Lib.hid (HT.out.below hB13)
    replace HC := Lib.hid (HC.out.below hB13)
    replace HP := Lib.hid (HP.out.below hB13)
    by_cases hkm : k < mp
    · obtain ⟨bv, fv, rfl, hblv, hclv⟩ := HPS.out k hkm
      have hpv := hclv k hkm
      obtain ⟨oP, cP, hpk, hlP, -⟩ := (HPA.out k hkm).form
      obtain ⟨ln, hln⟩ : ∃ l, L k = l := ⟨_, rfl⟩
      rw [hpk, hln] at hpv
      have pk3 : w3.cell? ⟨bv, fv + k, none⟩ = some (.slice oP ln cP) := (hBw3.cell (p := ⟨_, _, none⟩) hblv).trans hpv
      have zv : bv < w3.heap.size := by have := hBw3.size; omega
      have k0 : (0 : Int) ≤ (k : Int) := by omega
      have k1 : (k : Int) < (mp : Int) := by omega
      have HB13 := Lib.hid hB13
      clear hclv hpv hpk hln hB13
      by_cases hl70 : 70 < ln
      · have kl : decide ((70 : Int) < (ln : Int)) = true := decide_eq_true (by omega)
        go_wp2_with fail
        (go_at_call 11; refine (alive_any _ (HML.out.below (by first | exact Below.refl _ _ | (show Below w3.heap.size w3 _; go_grown)))).mono ?_; rintro e_ wz ⟨rfl, hb⟩)
        have hPwz : Below w3.heap.size w3 wz := below_step (w := w3) (by first | exact Below.refl _ _ | go_grown) hb
        have hBwz : Below w.heap.size w wz := below_step hBw3 hPwz
        clear hb hPwz hBw3
        go_wp2
        go_returns
        exact ⟨rfl, hBwz⟩
      · have kl : decide ((70 : Int) < (ln : Int)) = false := decide_eq_false (by omega)
        clear hl70
        go_wp2
        go_roundw
        case rel => exact ⟨k + 1, by omega, by go_num, HB13.out⟩
        case measure => simp [intOf]; omega
    · clear hB13
      go_wp2_with fail
      (go_at_call 22; refine (HL1.out _ _ _ _ (HT.out.below (by first | exact Below.refl _ _ | (show Below w3.heap.size w3 _; go_grown))) (HC.out.below (by first | exact Below.refl _ _ | (show Below w3.heap.size w3 _; go_grown))) (HP.out.below (by first | exact Below.refl _ _ | (show Below w3.heap.size w3 _; go_grown))) (HML.out.below (by first | exact Below.refl _ _ | (show Below w3.heap.size w3 _; go_grown)))).mono ?_; rintro e_ w4 ⟨u1, rfl, hu1, hb⟩)
      have hPw4 : Below w3.heap.size w3 w4 := below_step (w := w3) (by first | exact Below.refl _ _ | go_grown) hb
      have hBw4 : Below w.heap.size w w4 := below_step hBw3 hPw4
      replace HML := Lib.hid (HML.out.below hPw4)
      replace HT := Lib.hid (HT.out.below hPw4)
      replace HC := Lib.hid (HC.out.below hPw4)
      replace HP := Lib.hid (HP.out.below hPw4)
      have HU1 := Lib.hid hu1
      clear hu1
      clear hb hPw4 hBw3
      go_wp2_with fail
      (go_at_call 23; refine (HL2.out _ _ _ _ (HT.out.below (by first | exact Below.refl _ _ | (show Below w4.heap.size w4 _; go_grown))) (HC.out.below (by first | exact Below.refl _ _ | (show Below w4.heap.size w4 _; go_grown))) (HP.out.below (by first | exact Below.refl _ _ | (show Below w4.heap.size w4 _; go_grown)))).mono ?_; rintro e_ w5 ⟨u2, rfl, hu2, hb⟩)
      have hPw5 : Below w4.heap.size w4 w5 := below_step (w := w4) (by first | exact Below.refl _ _ | go_grown) hb
      have hBw5 : Below w.heap.size w w5 := below_step hBw4 hPw5
      replace HML := Lib.hid (HML.out.below hPw5)
      replace HT := Lib.hid (HT.out.below hPw5)
      replace HC := Lib.hid (HC.out.below hPw5)
      replace HP := Lib.hid (HP.out.below hPw5)
      replace HU1 := Lib.hid (HU1.out.below hPw5)
      have HU2 := Lib.hid hu2
      clear hu2
      clear hb hPw5 hBw4
      go_wp2_with fail
      (go_at_call 18; refine (intsEq_any _ _ (okN E n) (usdU C L f m) _ (HU1.out.below (by first | exact Below.refl _ _ | (show Below w5.heap.size w5 _; go_grown))) (HU2.out.below (by first | exact Below.refl _ _ | (show Below w5.heap.size w5 _; go_grown)))).mono ?_; rintro e_ w6 ⟨rfl, hb⟩)
      have hPw6 : Below w5.heap.size w5 w6 := below_step (w := w5) (by first | exact Below.refl _ _ | go_grown) hb
      have hBw6 : Below w.heap.size w w6 := below_step hBw5 hPw6
      replace HML := Lib.hid (HML.out.below hPw6)
      replace HT := Lib.hid (HT.out.below hPw6)
      replace HC := Lib.hid (HC.out.below hPw6)
      replace HP := Lib.hid (HP.out.below hPw6)
      replace HU1 := Lib.hid (HU1.out.below hPw6)
      replace HU2 := Lib.hid (HU2.out.below hPw6)
      clear hb hPw6 hBw5
      go_wp2_with fail
      (go_at_call 11; refine (alive_any _ (HML.out.below (by first | exact Below.refl _ _ | (show Below w6.heap.size w6 _; go_grown)))).mono ?_; rintro e_ wz ⟨rfl, hb⟩)
      have hPwz : Below w6.heap.size w6 wz := below_step (w := w6) (by first | exact Below.refl _ _ | go_grown) hb
      have hBwz : Below w.heap.size w wz := below_step hBw6 hPwz
      clear hb hPwz hBw6
      go_wp2
      go_returns
      exact ⟨rfl, hBwz⟩

set_option maxRecDepth 100000 in
theorem cableUses_contract (H : Type) (enc : TypeId × Value → H) (W : World) (base : Nat) (args : Array Value) (ds gs : List (DataW H)) (before : List MemPlace)
    (hval : ∀ (j : Nat) t v, Tryd.f6.params[j]? = some t → args[j]? = some v → Value.okWide Tryd.prog W .any base t v)
    (hW : DataW.Whole enc Tryd.prog Tryd.f6.params.toList Rows.cableUsesSpec.vars false W args.toList ds gs before) (hL : laidMetH Tryd.prog Rows.cableUsesRow.laid W) (hSh : W.ShapedOpen Tryd.prog) :
    Calls Tryd.prog 6 args W fun e W' => ∃ v, e = .returned v ∧ Rows.cableUsesSpec.post enc Tryd.prog Tryd.f6 false true false false W args v W' := by
  have hW' := hW
  obtain ⟨p, q, hA0, hV, rfl, hfz, hnd⟩ := hW
  have hA : DataW.TrodAll enc Tryd.prog W 0 (fun _ => true) true Tryd.f6.params.toList args.toList ds p := hA0
  rw [Tryd.params6] at hA hval
  obtain ⟨v0, vs0, d0, ds0, p0, q0, hargs, rfl, rfl, h0, r0⟩ := trodAll_cons hA
  obtain ⟨v1, vs1, d1, ds1, p1, q1, rfl, rfl, rfl, h1, r1⟩ := trodAll_cons r0
  obtain ⟨v2, vs2, d2, ds2, p2, q2, rfl, rfl, rfl, h2, r2⟩ := trodAll_cons r1
  obtain ⟨rfl, rfl, rfl⟩ := trodAll_nil r2
  obtain rfl : args = #[v0, v1, v2] := by cases args; simp_all
  obtain ⟨n, T, ht⟩ := trays_arg (hval 0 22 v0 rfl rfl) h0
  obtain ⟨m, C, hc⟩ := cabs_arg (hval 1 23 v1 rfl rfl) h1
  obtain ⟨mp, L, f, hp⟩ := paths_arg (hval 2 39 v2 rfl rfl) h2
  refine (cableUses_walk _ _ _ n m mp T C L f W ht hc hp (maxLen_of W hSh)).mono fun e W' ⟨he, hb⟩ => ?_
  subst he
  exact ⟨_, rfl, law_post laidOut (by kernel_rfl) (by kernel_rfl) Tryd.underlying4 rfl hW' (fun _ => rfl) hb⟩
theorem cableUses_laid (os : Os) : laidMet Tryd.prog Rows.cableUsesRow.laid ((laidWorld os).forCall (fun _ _ => 0) ⟨#[], #[.slice none 0 0, .slice none 0 0, .slice none 0 0], []⟩).memory := laidMet_of_run' 8 (by kernel_rfl) (by kernel_rfl)
theorem cableUses_reads (os : Os) {H : Type} (enc : TypeId × Value → H) : ∃ places, DataW.whole enc Tryd.prog ((laidWorld os).forCall (fun _ _ => 0) ⟨#[], #[.slice none 0 0, .slice none 0 0, .slice none 0 0], []⟩).memory Tryd.f6.params.toList Rows.cableUsesSpec.vars false (#[.slice none 0 0, .slice none 0 0, .slice none 0 0] : Array Value).toList 8 = some ([.nil, .nil, .nil], [], places) := ⟨[], by kernel_rfl⟩
set_option maxRecDepth 100000 in
theorem cableUses_lifted (os : Os) (started : os.Started) (H : Type) (enc : TypeId × Value → H) (F : Stop.Interp) :
    ReturnsInHanded {} Tryd.checked os 6 .any ((OpenSpec.ofChange Rows.cableUsesSpec).preRow enc Tryd.prog Tryd.f6 Rows.cableUsesRow.domain false Rows.cableUsesRow.laid) (((OpenSpec.ofChange Rows.cableUsesSpec).at F).post enc Tryd.prog Tryd.f6 false true false false) := by
  obtain ⟨places, hx⟩ := cableUses_reads os enc
  refine returnsInHanded_of_row (C := Tryd.checked) (s := OpenSpec.ofChange Rows.cableUsesSpec) own started (by kernel_rfl) Tryd.func6
    (witness_row_at (enc := enc) (C := Tryd.checked) false (laidWorld os) #[.slice none 0 0, .slice none 0 0, .slice none 0 0] rfl (by kernel_rfl) (by kernel_rfl) (by kernel_rfl)
      (OpenSpec.preRow_of_cond 8 hx (by kernel_rfl) (fun k hk => by cases hk) (by kernel_rfl) (cableUses_laid os))) ?_
  intro W base args ds gs before hval hW _ _ _ hL hSh _
  exact cableUses_contract H enc W base args ds gs before hval hW hL hSh
theorem cableUses_said : Rows.CableUsesSaid :=
  OpenClaim.holds_of_cond 6 Tryd.f6 rfl rfl rfl rfl rfl rfl rfl ⟨rfl, rfl, rfl, rfl, rfl⟩ rfl rfl rfl rfl rfl (by kernel_rfl) Tryd.func6 (by kernel_rfl)
    (of_decide_eq_true (by kernel_rfl)) (by unfold Func.isWrapper; rw [if_neg (of_decide_eq_false (by kernel_rfl))]; exact ⟨rfl, rfl⟩)
    (fun os started H enc _ F => by rw [OpenClaim.pre_eq_preRow]; exact cableUses_lifted os started H enc F)
theorem cableUses_plain (f : FuncId) (fn : Func) (hf : Tryd.pinned.checked.prog.funcNamed "shipyard/shipyardlaw45.CableUses" = some f) (hfn : Tryd.pinned.checked.prog.funcs[f]? = some fn) :
    false = Tryd.pinned.checked.prog.looks [] ∧ ∀ (j : Nat) t, fn.params[j]? = some t → Tryd.pinned.checked.prog.wantsStandIn t = false := by
  obtain rfl : f = 6 := Option.some.inj ((show Tryd.prog.funcNamed "shipyard/shipyardlaw45.CableUses" = some 6 by kernel_rfl).symm.trans hf) |>.symm
  obtain rfl : fn = Tryd.f6 := (Option.some.inj (Tryd.func6.symm.trans hfn)).symm
  refine ⟨by kernel_rfl, fun j t ht => ?_⟩
  rw [Tryd.params6] at ht
  have hm : t ∈ [22, 23, 39] := by simpa using Array.mem_of_getElem? ht
  have hall : ([22, 23, 39].all fun u => !Tryd.prog.wantsStandIn u) = true := by kernel_rfl
  exact (show Tryd.prog.wantsStandIn t = false by simpa using List.all_eq_true.1 hall t hm)
/-- the card -/
theorem cableUses_card : Rows.CableUsesCardSaid :=
  Claim7.holds_tied_plain_at .later [] _ _ _ _ cableUses_said (fun _ h => by cases h) (by kernel_rfl) (fun _ h => by cases h) cableUses_row_tie rfl ⟨rfl, rfl⟩ (by kernel_rfl) rfl cableUses_plain (by kernel_rfl)
#print axioms cableUses_card
end Go.Proofs.YtpkgadjglidnaaaDoor
