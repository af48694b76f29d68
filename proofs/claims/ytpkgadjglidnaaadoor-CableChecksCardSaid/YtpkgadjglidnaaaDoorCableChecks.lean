/-
  The law CableChecks. Conditions: as stated. By an AI agent.
-/
import Derived.Test.YtpkgadjglidnaaaDoorCabT
import Derived.Test.YtpkgadjglidnaaaDoorCabV
import Derived.Test.YtpkgadjglidnaaaDoorCabE
namespace Go.Proofs.YtpkgadjglidnaaaDoor
open Go Go.ChangeShapes Go.WideShapes Go.RowKit Go.ChangeAt
set_option linter.unusedVariables false
set_option linter.unusedSimpArgs false

set_option maxHeartbeats 8000000 in
set_option maxRecDepth 20000 in
theorem cableChecks_walk (v c : Value) (n m : Nat) (T : Nat → Tr) (C : Nat → Cb) (us : Int) (w : World) (ht : TraysAt w v n T) (hc : CabsAt w c m C) (hml : MaxLenIs w) : Calls Tryd.prog 3 #[v, c, .int .i64 us] w fun e w' => e = .returned (.bool true) ∧ Below w.heap.size w w' := by
  have HML := Lib.hid hml
  clear hml
  have hBw : Below w.heap.size w w := Below.refl _ _
  have HT := Lib.hid ht
  have HC := Lib.hid hc
  obtain ⟨oa, ca, rfl, hn9, hel⟩ := ht.form
  have HEL := Lib.hid hel
  clear ht hc hel
  obtain ⟨GR, hGR⟩ : ∃ b, greatB n m C = b := ⟨_, rfl⟩
  have HGR := Lib.hid hGR
  clear hGR
  go_enter Tryd.func3, Tryd.ntmps3
  go_wp2_with fail
  (go_at_call 10; refine (great_any _ _ n m T C _ HT.out HC.out).mono ?_; rintro e_ w1 ⟨rfl, hb⟩)
  have hPw1 : Below w.heap.size w w1 := below_step (w := w) (by first | exact Below.refl _ _ | go_grown) hb
  have hBw1 : Below w.heap.size w w1 := below_step hBw hPw1
  replace HML := Lib.hid (HML.out.below hPw1)
  replace HT := Lib.hid (HT.out.below hPw1)
  replace HC := Lib.hid (HC.out.below hPw1)
  rw [HGR.out]
  clear hb hPw1
  cases GR
  rotate_left
  · go_wp2_with fail
    (go_at_call 11; refine (alive_any _ (HML.out.below (by first | exact Below.refl _ _ | (show Below w1.heap.size w1 _; go_grown)))).mono ?_; rintro e_ wz ⟨rfl, hb⟩)
    have hPwz : Below w1.heap.size w1 wz := below_step (w := w1) (by first | exact Below.refl _ _ | go_grown) hb
    have hBwz : Below w.heap.size w wz := below_step hBw1 hPwz
    clear hb hPwz hBw1
    go_wp2
    go_returns
    exact ⟨rfl, hBwz⟩
  obtain ⟨hn, hm, hs⟩ := greatB_no HGR.out
  have HS := Lib.hid hs
  obtain ⟨E, hE⟩ : ∃ e, checkF n T m C = e := ⟨_, rfl⟩
  have HL1 : Hid (∀ W u c, TraysAt W u n T → CabsAt W c m C → MaxLenIs W → Calls Tryd.prog 14 #[u, c] W fun e w' => e = .returned (.int .i64 E) ∧ Below W.heap.size W w') := fun W u c h1 h2 h3 => by
    have h := check_any u c n m T C W h1 h2 HS.out h3
    rw [hE] at h
    exact h
  have HL2 : Hid (∀ W u c, TraysAt W u n T → CabsAt W c m C → Calls Tryd.prog 15 #[u, c] W fun e w' => e = .returned (.int .i64 E) ∧ Below W.heap.size W w') := fun W u c h1 h2 => by
    have h := rCheck_any u c n m T C W h1 h2 HS.out
    rw [hE] at h
    exact h
  clear hE hs
  go_wp2
  go_loopw [7] (fun i wr => ∃ k : Nat, k ≤ n ∧ i = .int .i64 k ∧ Below w1.heap.size w1 wr) (fun i _ => n - (intOf i).toNat)
  case atStart => exact ⟨0, by omega, rfl, Below.refl _ _⟩
  case round =>
    obtain ⟨w3, rfl⟩ : ∃ x : World, x = wr := ⟨_, rfl⟩
    obtain ⟨j, hj, rfl, hB13⟩ := hrel
    have hBw3 : Below w.heap.size w w3 := below_step hBw1 hB13
    replace HML := Lib.hid (HML.out.below hB13)
    replace HT := Lib.hid (HT.out.below hB13)
    replace HC := Lib.hid (HC.out.below hB13)
    by_cases hjn : j < n
    · obtain ⟨b1, f1, rfl, hbl1, hcl1⟩ := HEL.out j hjn
      have c0 : w3.cell? ⟨b1, f1 + j * 4, none⟩ = some (.int .i64 (T j).A) := (hBw3.cell (p := ⟨_, _, none⟩) hbl1).trans (hcl1 j hjn).1
      have c1 : w3.cell? ⟨b1, f1 + j * 4 + 1, none⟩ = some (.int .i64 (T j).B) := (hBw3.cell (p := ⟨_, _, none⟩) hbl1).trans (hcl1 j hjn).2.1
      have c2 : w3.cell? ⟨b1, f1 + j * 4 + 2, none⟩ = some (.int .i64 (T j).L) := (hBw3.cell (p := ⟨_, _, none⟩) hbl1).trans (hcl1 j hjn).2.2.1
      have c3 : w3.cell? ⟨b1, f1 + j * 4 + 3, none⟩ = some (.int .i64 (T j).S) := (hBw3.cell (p := ⟨_, _, none⟩) hbl1).trans (hcl1 j hjn).2.2.2
      obtain ⟨⟨ta, tb, tl, tsp⟩, htj⟩ : ∃ t, T j = t := ⟨_, rfl⟩
      rw [htj] at c0 c1 c2 c3
      dsimp only at c0 c1 c2 c3
      have hbr1 : b1 < w3.heap.size := by have := hBw3.size; omega
      have k0 : (0 : Int) ≤ (j : Int) := by omega
      have k1 : (j : Int) < (n : Int) := by omega
      obtain ⟨fl, hfl⟩ : ∃ x, fillF tsp us = x := ⟨_, rfl⟩
      have HF1 : Hid (∀ W, Calls Tryd.prog 12 #[.agg #[.int .i64 ta, .int .i64 tb, .int .i64 tl, .int .i64 tsp], .int .i64 us] W fun e w' => e = .returned (.int .i64 fl) ∧ Below W.heap.size W w') := fun W => hfl ▸ fill_any ta tb tl tsp us W
      have HF2 : Hid (∀ W, Calls Tryd.prog 13 #[.agg #[.int .i64 ta, .int .i64 tb, .int .i64 tl, .int .i64 tsp], .int .i64 us] W fun e w' => e = .returned (.int .i64 fl) ∧ Below W.heap.size W w') := fun W => hfl ▸ rfill_any ta tb tl tsp us W
      have HB13 := Lib.hid hB13
      clear hcl1 htj hfl hB13
      go_wp2_with fail
      refine wp_region_relw 13 (by kernel_rfl) (by kernel_rfl) (by kernel_rfl) ?_
      simp only [List.take_succ_cons, List.take_zero, fillL, Act.put, List.setIfInBounds_toArray, List.set_cons_zero, List.set_cons_succ]
      iterate 5
        apply rel_is
        · intro u wx hb hd
          have hz := hb.size
          (try simp only [World.size_alloc, World.size_setCell] at hz)
          have hz0 : b1 < wx.heap.size := by omega
          obtain ⟨hc, hf⟩ := bcell hb
          have HBX := Lib.hid hb
          clear hb hz
          simp [depsS, Region.binds, updS, Stay.is, Stay.any] at hd
          go_simp
          first | exact ⟨Below.refl _ _, rfl⟩ | rfl
      apply rel_is
      · intro u wx hb hd
        have hz := hb.size
        (try simp only [World.size_alloc, World.size_setCell] at hz)
        have hz0 : b1 < wx.heap.size := by omega
        obtain ⟨hc, hf⟩ := bcell hb
        have HBX := Lib.hid hb
        clear hb hz
        simp [depsS, Region.binds, updS, Stay.is, Stay.any] at hd
        go_simp
        first | rfl | (go_at_call 12; refine (HF1.out _).mono ?_; rintro e w1 ⟨rfl, hb1⟩; first | exact ⟨rfl, hb1⟩ | exact ⟨_, rfl, hb1, rfl⟩)
      iterate 5
        apply rel_is
        · intro u wx hb hd
          have hz := hb.size
          (try simp only [World.size_alloc, World.size_setCell] at hz)
          have hz0 : b1 < wx.heap.size := by omega
          obtain ⟨hc, hf⟩ := bcell hb
          have HBX := Lib.hid hb
          clear hb hz
          simp [depsS, Region.binds, updS, Stay.is, Stay.any] at hd
          go_simp
          first | exact ⟨Below.refl _ _, rfl⟩ | rfl
      apply rel_is
      · intro u wx hb hd
        have hz := hb.size
        (try simp only [World.size_alloc, World.size_setCell] at hz)
        have hz0 : b1 < wx.heap.size := by omega
        obtain ⟨hc, hf⟩ := bcell hb
        have HBX := Lib.hid hb
        clear hb hz
        simp [depsS, Region.binds, updS, Stay.is, Stay.any] at hd
        go_simp
        first | rfl | (go_at_call 13; refine (HF2.out _).mono ?_; rintro e w1 ⟨rfl, hb1⟩; first | exact ⟨rfl, hb1⟩ | exact ⟨_, rfl, hb1, rfl⟩)
      apply rel_is
      · intro u wx hb hd
        have hz := hb.size
        (try simp only [World.size_alloc, World.size_setCell] at hz)
        have hz0 : b1 < wx.heap.size := by omega
        obtain ⟨hc, hf⟩ := bcell hb
        have HBX := Lib.hid hb
        clear hb hz
        simp [depsS, Region.binds, updS, Stay.is, Stay.any] at hd
        go_simp
        first | exact ⟨Below.refl _ _, rfl⟩ | rfl
      intro u w4 hb hE
      have e0 : u 0 = _ := endS_get hE 0 (by decide)
      have e1 : u 1 = _ := endS_get hE 1 (by decide)
      have e2 : u 2 = _ := endS_get hE 2 (by decide)
      have e3 : u 3 = _ := endS_get hE 3 (by decide)
      have e4 : u 4 = _ := endS_get hE 4 (by decide)
      have e5 : u 5 = _ := endS_get hE 5 (by decide)
      have e6 : u 6 = _ := endS_get hE 6 (by decide)
      have e7 : u 7 = _ := endS_get hE 7 (by decide)
      have e8 : u 8 = _ := endS_get hE 8 (by decide)
      have e9 : u 9 = _ := endS_get hE 9 (by decide)
      have e10 : u 10 = _ := endS_get hE 10 (by decide)
      have e11 : u 11 = _ := endS_get hE 11 (by decide)
      have e12 : u 12 = _ := endS_get hE 12 (by decide)
      simp only [List.drop_succ_cons, List.drop_zero, List.take_succ_cons, List.take_zero, fillL, Act.put, List.setIfInBounds_toArray, List.set_cons_zero, List.set_cons_succ, e0, e1, e2, e3, e4, e5, e6, e7, e8, e9, e10, e11, e12]
      clear e0 e1 e2 e3 e4 e5 e6 e7 e8 e9 e10 e11 e12 hE
      have HBw4 := Lib.hid (below_step (w := w3) (by first | assumption | go_grown) hb)
      have HBXw4 := Lib.hid hb
      have hzw4 := hb.size
      (try simp only [World.size_alloc, World.size_setCell] at hzw4)
      have hzw40 : b1 < w4.heap.size := by omega
      obtain ⟨hcw4, hfw4⟩ := bcell hb
      clear hb hzw4
      go_wp2
      go_roundw
      case rel => exact ⟨j + 1, by omega, by go_num, below_step HB13.out HBXw4.out⟩
      case measure => simp [intOf]; omega
    · clear hB13
      go_wp2_with fail
      (go_at_call 14; refine (HL1.out _ _ _ (HT.out.below (by first | exact Below.refl _ _ | (show Below w3.heap.size w3 _; go_grown))) (HC.out.below (by first | exact Below.refl _ _ | (show Below w3.heap.size w3 _; go_grown))) (HML.out.below (by first | exact Below.refl _ _ | (show Below w3.heap.size w3 _; go_grown)))).mono ?_; rintro e_ w4 ⟨rfl, hb⟩)
      have hPw4 : Below w3.heap.size w3 w4 := below_step (w := w3) (by first | exact Below.refl _ _ | go_grown) hb
      have hBw4 : Below w.heap.size w w4 := below_step hBw3 hPw4
      replace HML := Lib.hid (HML.out.below hPw4)
      replace HT := Lib.hid (HT.out.below hPw4)
      replace HC := Lib.hid (HC.out.below hPw4)
      clear hb hPw4 hBw3
      go_wp2_with fail
      (go_at_call 15; refine (HL2.out _ _ _ (HT.out.below (by first | exact Below.refl _ _ | (show Below w4.heap.size w4 _; go_grown))) (HC.out.below (by first | exact Below.refl _ _ | (show Below w4.heap.size w4 _; go_grown)))).mono ?_; rintro e_ w5 ⟨rfl, hb⟩)
      have hPw5 : Below w4.heap.size w4 w5 := below_step (w := w4) (by first | exact Below.refl _ _ | go_grown) hb
      have hBw5 : Below w.heap.size w w5 := below_step hBw4 hPw5
      replace HML := Lib.hid (HML.out.below hPw5)
      replace HT := Lib.hid (HT.out.below hPw5)
      replace HC := Lib.hid (HC.out.below hPw5)
      clear hb hPw5 hBw4
      go_wp2_with fail
      (go_at_call 11; refine (alive_any _ (HML.out.below (by first | exact Below.refl _ _ | (show Below w5.heap.size w5 _; go_grown)))).mono ?_; rintro e_ wz ⟨rfl, hb⟩)
      have hPwz : Below w5.heap.size w5 wz := below_step (w := w5) (by first | exact Below.refl _ _ | go_grown) hb
      have hBwz : Below w.heap.size w wz := below_step hBw5 hPwz
      clear hb hPwz hBw5
      go_wp2
      go_returns
      exact ⟨rfl, hBwz⟩

set_option maxRecDepth 100000 in
theorem cableChecks_contract (H : Type) (enc : TypeId × Value → H) (W : World) (base : Nat) (args : Array Value) (ds gs : List (DataW H)) (before : List MemPlace)
    (hval : ∀ (j : Nat) t v, Tryd.f3.params[j]? = some t → args[j]? = some v → Value.okWide Tryd.prog W .any base t v)
    (hW : DataW.Whole enc Tryd.prog Tryd.f3.params.toList Rows.cableChecksSpec.vars false W args.toList ds gs before) (hL : laidMetH Tryd.prog Rows.cableChecksRow.laid W) (hSh : W.ShapedOpen Tryd.prog) :
    Calls Tryd.prog 3 args W fun e W' => ∃ v, e = .returned v ∧ Rows.cableChecksSpec.post enc Tryd.prog Tryd.f3 false true false false W args v W' := by
  have hW' := hW
  obtain ⟨p, q, hA0, hV, rfl, hfz, hnd⟩ := hW
  have hA : DataW.TrodAll enc Tryd.prog W 0 (fun _ => true) true Tryd.f3.params.toList args.toList ds p := hA0
  rw [Tryd.params3] at hA hval
  obtain ⟨v0, vs0, d0, ds0, p0, q0, hargs, rfl, rfl, h0, r0⟩ := trodAll_cons hA
  obtain ⟨v1, vs1, d1, ds1, p1, q1, rfl, rfl, rfl, h1, r1⟩ := trodAll_cons r0
  obtain ⟨v2, vs2, d2, ds2, p2, q2, rfl, rfl, rfl, h2, r2⟩ := trodAll_cons r1
  obtain ⟨rfl, rfl, rfl⟩ := trodAll_nil r2
  obtain rfl : args = #[v0, v1, v2] := by cases args; simp_all
  obtain ⟨n, T, ht⟩ := trays_arg (hval 0 22 v0 rfl rfl) h0
  obtain ⟨m, C, hc⟩ := cabs_arg (hval 1 23 v1 rfl rfl) h1
  obtain ⟨us, rfl, rfl, rfl, _w2⟩ := open_int Tryd.underlying3 (hval 2 3 v2 rfl rfl) h2
  refine (cableChecks_walk _ _ n m T C us W ht hc (maxLen_of W hSh)).mono fun e W' ⟨he, hb⟩ => ?_
  subst he
  exact ⟨_, rfl, law_post laidOut (by kernel_rfl) (by kernel_rfl) Tryd.underlying4 rfl hW' (fun _ => rfl) hb⟩
theorem cableChecks_laid (os : Os) : laidMet Tryd.prog Rows.cableChecksRow.laid ((laidWorld os).forCall (fun _ _ => 0) ⟨#[], #[.slice none 0 0, .slice none 0 0, .int .i64 0], []⟩).memory := laidMet_of_run' 8 (by kernel_rfl) (by kernel_rfl)
theorem cableChecks_reads (os : Os) {H : Type} (enc : TypeId × Value → H) : ∃ places, DataW.whole enc Tryd.prog ((laidWorld os).forCall (fun _ _ => 0) ⟨#[], #[.slice none 0 0, .slice none 0 0, .int .i64 0], []⟩).memory Tryd.f3.params.toList Rows.cableChecksSpec.vars false (#[.slice none 0 0, .slice none 0 0, .int .i64 0] : Array Value).toList 8 = some ([.nil, .nil, .lit (.int .i64 0)], [], places) := ⟨[], by kernel_rfl⟩
set_option maxRecDepth 100000 in
theorem cableChecks_lifted (os : Os) (started : os.Started) (H : Type) (enc : TypeId × Value → H) (F : Stop.Interp) :
    ReturnsInHanded {} Tryd.checked os 3 .any ((OpenSpec.ofChange Rows.cableChecksSpec).preRow enc Tryd.prog Tryd.f3 Rows.cableChecksRow.domain false Rows.cableChecksRow.laid) (((OpenSpec.ofChange Rows.cableChecksSpec).at F).post enc Tryd.prog Tryd.f3 false true false false) := by
  obtain ⟨places, hx⟩ := cableChecks_reads os enc
  refine returnsInHanded_of_row (C := Tryd.checked) (s := OpenSpec.ofChange Rows.cableChecksSpec) own started (by kernel_rfl) Tryd.func3
    (witness_row_at (enc := enc) (C := Tryd.checked) false (laidWorld os) #[.slice none 0 0, .slice none 0 0, .int .i64 0] rfl (by kernel_rfl) (by kernel_rfl) (by kernel_rfl)
      (OpenSpec.preRow_of_cond 8 hx (by kernel_rfl) (fun k hk => by cases hk) (by kernel_rfl) (cableChecks_laid os))) ?_
  intro W base args ds gs before hval hW _ _ _ hL hSh _
  exact cableChecks_contract H enc W base args ds gs before hval hW hL hSh
theorem cableChecks_said : Rows.CableChecksSaid :=
  OpenClaim.holds_of_cond 3 Tryd.f3 rfl rfl rfl rfl rfl rfl rfl ⟨rfl, rfl, rfl, rfl, rfl⟩ rfl rfl rfl rfl rfl (by kernel_rfl) Tryd.func3 (by kernel_rfl)
    (of_decide_eq_true (by kernel_rfl)) (by unfold Func.isWrapper; rw [if_neg (of_decide_eq_false (by kernel_rfl))]; exact ⟨rfl, rfl⟩)
    (fun os started H enc _ F => by rw [OpenClaim.pre_eq_preRow]; exact cableChecks_lifted os started H enc F)
theorem cableChecks_plain (f : FuncId) (fn : Func) (hf : Tryd.pinned.checked.prog.funcNamed "shipyard/shipyardlaw45.CableChecks" = some f) (hfn : Tryd.pinned.checked.prog.funcs[f]? = some fn) :
    false = Tryd.pinned.checked.prog.looks [] ∧ ∀ (j : Nat) t, fn.params[j]? = some t → Tryd.pinned.checked.prog.wantsStandIn t = false := by
  obtain rfl : f = 3 := Option.some.inj ((show Tryd.prog.funcNamed "shipyard/shipyardlaw45.CableChecks" = some 3 by kernel_rfl).symm.trans hf) |>.symm
  obtain rfl : fn = Tryd.f3 := (Option.some.inj (Tryd.func3.symm.trans hfn)).symm
  refine ⟨by kernel_rfl, fun j t ht => ?_⟩
  rw [Tryd.params3] at ht
  have hm : t ∈ [22, 23, 3] := by simpa using Array.mem_of_getElem? ht
  have hall : ([22, 23, 3].all fun u => !Tryd.prog.wantsStandIn u) = true := by kernel_rfl
  exact (show Tryd.prog.wantsStandIn t = false by simpa using List.all_eq_true.1 hall t hm)
/-- the card -/
theorem cableChecks_card : Rows.CableChecksCardSaid :=
  Claim7.holds_tied_plain_at .later [] _ _ _ _ cableChecks_said (fun _ h => by cases h) (by kernel_rfl) (fun _ h => by cases h) cableChecks_row_tie rfl ⟨rfl, rfl⟩ (by kernel_rfl) rfl cableChecks_plain (by kernel_rfl)
#print axioms cableChecks_card
end Go.Proofs.YtpkgadjglidnaaaDoor
