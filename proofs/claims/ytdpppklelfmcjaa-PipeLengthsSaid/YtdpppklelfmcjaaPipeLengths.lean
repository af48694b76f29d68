/-
  The law PipeLengths. Conditions: none. By an AI agent.
-/
import Derived.Test.YtdpppklelfmcjaaPipeL
import Derived.Test.YtdpppklelfmcjaaOpen
import Derived.Test.YtdpppklelfmcjaaRows
namespace Go.Proofs.Ytdpppklelfmcjaa
open Go Go.ChangeShapes Go.WideShapes Go.RowKit Go.ChangeAt
set_option linter.unusedSimpArgs false
set_option linter.unusedVariables false

set_option maxRecDepth 20000 in
set_option maxHeartbeats 4000000 in
theorem pipeLengths_walk (v : Value) (n : Nat) (x y z : Nat → Int) (r : Int) (w : World) (h : VecsAt w v n x y z) :
    Calls Try.prog 4 #[v, .int .i64 r] w fun e w' => e = .returned (.bool true) ∧ Below w.heap.size w w' := by
  obtain ⟨oa, cap, rfl, hn0, -⟩ := h.form
  have HV := Lib.hid h
  clear h
  by_cases hs : n ≤ 60
  · obtain ⟨C, hC⟩ : ∃ C, checkF n x y z r = C := ⟨_, rfl⟩
    obtain ⟨T, hT⟩ : ∃ T, lengthF n x y z r = T := ⟨_, rfl⟩
    obtain ⟨B, hB⟩ : ∃ B, mx ((n : Int) - 2) 0 = B := ⟨_, rfl⟩
    have HC := Lib.hid hC
    have HT := Lib.hid hT
    have HN := Lib.hid hB
    have HSF : Hid (sameF (legN n x y z) (legN n x y z) (legV x y z) (legV x y z) = true) := by
      show sameF _ _ _ _ = true
      unfold sameF
      rw [decide_eq_true rfl, allTo_iff.2 (fun i hi => by simp)]
      rfl
    clear hC hT hB
    go_enter Try.func4, Try.ntmps4
    go_wp2_with fail
    (go_at_call 13; refine (length_pts _ _ _ _ _ _ _ HV.out).mono ?_; rintro e w1 ⟨rfl, hb⟩)
    rw [HC.out, HT.out]
    have HB1 := Lib.hid (hb)
    clear hb
    go_wp2_with fail
    (go_at_call 14; refine (rlength_pts _ _ _ _ _ _ _ (HV.out.below HB1.out)).mono ?_; rintro e w2 ⟨rfl, hb⟩)
    rw [HC.out, HT.out]
    have HB2 := Lib.hid (below_step HB1.out hb)
    clear hb
    go_wp2_with fail
    (go_at_call 15; refine (bends_val _ (HV.out.below HB2.out) HN.out).mono ?_; rintro e w3 ⟨rfl, hb⟩)
    have HB3 := Lib.hid (below_step HB2.out hb)
    clear hb
    go_wp2_with fail
    (go_at_call 16; refine (rbends_val _ (HV.out.below HB3.out) HN.out).mono ?_; rintro e w4 ⟨rfl, hb⟩)
    have HB4 := Lib.hid (below_step HB3.out hb)
    clear hb
    go_wp2_with fail
    (go_at_call 18; refine (legs_any _ _ _ _ _ _ (HV.out.below HB4.out) (by omega)).mono ?_; rintro e w5 ⟨l1, rfl, hl1, -, hb⟩)
    have HB5 := Lib.hid (below_step HB4.out hb)
    have HL1 := Lib.hid hl1
    clear hb hl1
    go_wp2_with fail
    (go_at_call 19; refine (rlegs_any _ _ _ _ _ _ (HV.out.below HB5.out) (by omega)).mono ?_; rintro e w6 ⟨l2, rfl, hl2, -, hb⟩)
    have HL1' := Lib.hid (HL1.out.below hb)
    have HB6 := Lib.hid (below_step HB5.out hb)
    have HL2 := Lib.hid hl2
    clear hb hl2 HL1
    go_wp2_with fail
    (go_at_call 17; refine (sameInts_any _ _ _ _ _ _ _ HL1'.out HL2.out).mono ?_; rintro e w7 ⟨rfl, hb⟩)
    rw [HSF.out]
    have HB7 := Lib.hid (below_step HB6.out hb)
    clear hb
    go_wp2_with fail
    (go_at_call 10; refine (awake_any _).mono ?_; rintro e w8 ⟨rfl, hb⟩)
    have HB8 := Lib.hid (below_step HB7.out hb)
    clear hb
    go_wp2
    go_returns
    exact ⟨rfl, HB8.out⟩
  · have hb60 : 60 < n := by omega
    clear hs
    go_enter Try.func4, Try.ntmps4
    go_wp2_with fail
    (go_at_call 10; refine (awake_any _).mono ?_; rintro e w1 ⟨rfl, hb⟩)
    have HB1 := Lib.hid (hb)
    clear hb
    go_wp2
    go_returns
    exact ⟨rfl, HB1.out⟩

set_option maxRecDepth 100000 in
theorem pipeLengths_contract (H : Type) (enc : TypeId × Value → H) (W : World) (base : Nat) (args : Array Value) (ds gs : List (DataW H)) (before : List MemPlace)
    (hval : ∀ (j : Nat) t v, Try.f4.params[j]? = some t → args[j]? = some v → Value.okWide Try.prog W .any base t v)
    (hW : DataW.Whole enc Try.prog Try.f4.params.toList Rows.pipeLengthsSpec.vars false W args.toList ds gs before) (hL : laidMetH Try.prog Rows.pipeLengthsRow.laid W) :
    Calls Try.prog 4 args W fun e W' => ∃ v, e = .returned v ∧ Rows.pipeLengthsSpec.post enc Try.prog Try.f4 false true false false W args v W' := by
  have hW' := hW
  obtain ⟨p, q, hA0, hV, rfl, hfz, hnd⟩ := hW
  have hA : DataW.TrodAll enc Try.prog W 0 (fun _ => true) true Try.f4.params.toList args.toList ds p := hA0
  rw [Try.params4] at hA hval
  obtain ⟨v0, vs0, d0, ds0, p0, q0, hargs, rfl, rfl, h0, r0⟩ := trodAll_cons hA
  obtain ⟨v1, vs1, d1, ds1, p1, q1, rfl, rfl, rfl, h1, r1⟩ := trodAll_cons r0
  obtain ⟨rfl, rfl, rfl⟩ := trodAll_nil r1
  obtain rfl : args = #[v0, v1] := by cases args; simp_all
  obtain ⟨n, ff, hff, hbd⟩ := flat_slice (n := 8) (e := 40) (sz := 3) (by kernel_rfl) (by kernel_rfl) (by decide) (by kernel_rfl) (hval 0 22 v0 rfl rfl) h0
  have hvv := vecs_of_flat hff
  obtain ⟨r, rfl, rfl, rfl, _w1⟩ := open_int Try.underlying3 (hval 1 3 v1 rfl rfl) h1
  refine (pipeLengths_walk _ n _ _ _ r W hvv).mono fun e W' ⟨he, hb⟩ => ?_
  subst he
  exact ⟨_, rfl, law_post laidOut (by kernel_rfl) (by kernel_rfl) Try.underlying4 rfl hW' (fun _ => rfl) hb⟩
theorem pipeLengths_reads (os : Os) {H : Type} (enc : TypeId × Value → H) : ∃ places, DataW.whole enc Try.prog ((World.settled Try.prog os).forCall (fun _ _ => 0) ⟨#[], #[.slice none 0 0, .int .i64 0], []⟩).memory Try.f4.params.toList Rows.pipeLengthsSpec.vars false (#[.slice none 0 0, .int .i64 0] : Array Value).toList 8 = some ([.nil, .lit (.int .i64 0)], [], places) := ⟨[], by kernel_rfl⟩
set_option maxRecDepth 100000 in
theorem pipeLengths_lifted (os : Os) (started : os.Started) (H : Type) (enc : TypeId × Value → H) (F : Stop.Interp) :
    ReturnsInHanded {} Try.checked os 4 .any ((OpenSpec.ofChange Rows.pipeLengthsSpec).preRow enc Try.prog Try.f4 Rows.pipeLengthsRow.domain false Rows.pipeLengthsRow.laid) (((OpenSpec.ofChange Rows.pipeLengthsSpec).at F).post enc Try.prog Try.f4 false true false false) := by
  obtain ⟨places, hx⟩ := pipeLengths_reads os enc
  refine returnsInHanded_of_row (C := Try.checked) (s := OpenSpec.ofChange Rows.pipeLengthsSpec) own started (by kernel_rfl) Try.func4
    (witness_row_at (enc := enc) (C := Try.checked) false (World.settled Try.prog os) #[.slice none 0 0, .int .i64 0] rfl (by kernel_rfl) (by kernel_rfl) (by kernel_rfl)
      (OpenSpec.preRow_of_cond 8 hx (by kernel_rfl) (fun k hk => by cases hk) (by kernel_rfl) (laidMet_nil _ _))) ?_
  intro W base args ds gs before hval hW _ _ _ hL _ _
  exact pipeLengths_contract H enc W base args ds gs before hval hW hL
theorem pipeLengths_said : Rows.PipeLengthsSaid :=
  OpenClaim.holds_of_cond 4 Try.f4 rfl rfl rfl rfl rfl rfl rfl ⟨rfl, rfl, rfl, rfl, rfl⟩ rfl rfl rfl rfl rfl (by kernel_rfl) Try.func4 (by kernel_rfl)
    (of_decide_eq_true (by kernel_rfl)) (by unfold Func.isWrapper; rw [if_neg (of_decide_eq_false (by kernel_rfl))]; exact ⟨rfl, rfl⟩)
    (fun os started H enc _ F => by rw [OpenClaim.pre_eq_preRow]; exact pipeLengths_lifted os started H enc F)
#print axioms pipeLengths_said
end Go.Proofs.Ytdpppklelfmcjaa
