/-
  The law CraneReaches. Conditions: none. By an AI agent.
-/
import Derived.Test.YtmaopenmbngenaaCraneR
import Derived.Test.YtmaopenmbngenaaCraneS
import Derived.Test.YtmaopenmbngenaaRows
namespace Go.Proofs.Ytmaopenmbngenaa
open Go Go.ChangeShapes Go.WideShapes Go.RowKit Go.ChangeAt
set_option linter.unusedSimpArgs false
set_option linter.unusedVariables false

theorem craneReaches_walk (v : Value) (s : ByteArray) (n : Nat) (r q : Nat → Int) (x0 x1 y : Int) (w : World) (hs : s.size ≤ 9223372036854775807) (h : PairsAt w v n r q) : Calls Try.prog 7 #[.agg #[.string s, v], .agg #[.int .i64 x0, .int .i64 x1], .int .i64 y] w fun e w' => e = .returned (.bool true) ∧ Below w.heap.size w w' := by
  obtain ⟨oa, cap, rfl, hn, -⟩ := h.form
  by_cases hF : fewB 1 (fun _ => s) (fun _ => n) = true
  · by_cases hK : checkF 1 (fun _ => s) (fun _ => n) (fun _ => r) (fun _ => q) = 0
    · by_cases h0 : x0 < 0
      · exact reaches_r0 s oa n cap r q x0 x1 y w hs h hF hK h0
      · by_cases h1 : x1 < 0
        · exact reaches_r1 s oa n cap r q x0 x1 y w hs h hF hK (by omega) h1
        · by_cases h2 : y < 1
          · exact reaches_lo s oa n cap r q x0 x1 y w hs h hF hK (by omega) (by omega) h2
          · have ok := check_one hK
            have e := (load_le ok (x := x0) (y := y) (by omega) (by omega)).trans (reach_le (by omega) n).symm
            have g2 : loadF n r q (mx x0 x1) ≤ loadF n r q (mn x0 x1) := load_mono ok (by unfold mn; split <;> omega) (by unfold mn mx; split <;> split <;> omega)
            have g3 := load_nonneg ok x0
            by_cases hd : y ≤ loadF n r q x0
            · exact reaches_yes s oa n cap r q x0 x1 y w hs h _ _ _ _ hF hK (by omega) (by omega) (by omega) rfl rfl rfl rfl hd (e.1 hd) g2 g3
            · exact reaches_no s oa n cap r q x0 x1 y w hs h _ _ _ _ hF hK (by omega) (by omega) (by omega) rfl rfl rfl rfl (by omega) (by have : ¬ x0 ≤ reachTo r q y n := fun hh => hd (e.2 hh); omega) g2 g3
    · exact reaches_check s oa n cap r q x0 x1 y w hs h _ hF rfl hK
  · exact reaches_few s oa n cap r q x0 x1 y w hs h (by simpa using hF)

set_option maxRecDepth 100000 in
theorem craneReaches_contract (H : Type) (enc : TypeId × Value → H) (W : World) (base : Nat) (args : Array Value) (ds gs : List (DataW H)) (before : List MemPlace)
    (hval : ∀ (j : Nat) t v, Try.f7.params[j]? = some t → args[j]? = some v → Value.okWide Try.prog W .any base t v)
    (hW : DataW.Whole enc Try.prog Try.f7.params.toList Rows.craneReachesSpec.vars false W args.toList ds gs before) (hL : laidMetH Try.prog Rows.craneReachesRow.laid W) :
    Calls Try.prog 7 args W fun e W' => ∃ v, e = .returned v ∧ Rows.craneReachesSpec.post enc Try.prog Try.f7 false true false false W args v W' := by
  have hW' := hW
  obtain ⟨p, q, hA0, hV, rfl, hfz, hnd⟩ := hW
  have hA : DataW.TrodAll enc Try.prog W 0 (fun _ => true) true Try.f7.params.toList args.toList ds p := hA0
  rw [Try.params7] at hA hval
  obtain ⟨v0, vs0, d0, ds0, p0, q0, hargs, rfl, rfl, h0, r0⟩ := trodAll_cons hA
  obtain ⟨v1, vs1, d1, ds1, p1, q1, rfl, rfl, rfl, h1, r1⟩ := trodAll_cons r0
  obtain ⟨v2, vs2, d2, ds2, p2, q2, rfl, rfl, rfl, h2, r2⟩ := trodAll_cons r1
  obtain ⟨rfl, rfl, rfl⟩ := trodAll_nil r2
  obtain rfl : args = #[v0, v1, v2] := by cases args; simp_all
  obtain ⟨s, sv, n, rr, qq, rfl, hs, hpr⟩ := crane_of (hval 0 29 v0 rfl rfl) h0
  obtain ⟨zs1, rfl, hl1, hb1⟩ := flat_open_array (n := 8) (m := 2) (e := 3) (by kernel_rfl) (by kernel_rfl) (by kernel_rfl) (hval 1 32 v1 rfl rfl) h1
  obtain ⟨x0, x1, rfl⟩ := list2 hl1
  obtain ⟨lo, rfl, rfl, rfl, _w2⟩ := open_int Try.underlying3 (hval 2 3 v2 rfl rfl) h2
  refine (craneReaches_walk _ s n rr qq x0 x1 lo W hs hpr).mono fun e W' ⟨he, hb⟩ => ?_
  subst he
  exact ⟨_, rfl, law_post laidOut (by kernel_rfl) (by kernel_rfl) Try.underlying4 rfl hW' (fun _ => rfl) hb⟩
theorem craneReaches_reads (os : Os) {H : Type} (enc : TypeId × Value → H) : ∃ places, DataW.whole enc Try.prog ((World.settled Try.prog os).forCall (fun _ _ => 0) ⟨#[], #[.agg #[.string ⟨#[]⟩, .slice none 0 0], .agg #[.int .i64 0, .int .i64 0], .int .i64 0], []⟩).memory Try.f7.params.toList Rows.craneReachesSpec.vars false (#[.agg #[.string ⟨#[]⟩, .slice none 0 0], .agg #[.int .i64 0, .int .i64 0], .int .i64 0] : Array Value).toList 8 = some ([.agg [.lit (.string []), .nil], .agg [.lit (.int .i64 0), .lit (.int .i64 0)], .lit (.int .i64 0)], [], places) := ⟨[], by kernel_rfl⟩
set_option maxRecDepth 100000 in
theorem craneReaches_lifted (os : Os) (started : os.Started) (H : Type) (enc : TypeId × Value → H) (F : Stop.Interp) :
    ReturnsInHanded {} Try.checked os 7 .any ((OpenSpec.ofChange Rows.craneReachesSpec).preRow enc Try.prog Try.f7 Rows.craneReachesRow.domain false Rows.craneReachesRow.laid) (((OpenSpec.ofChange Rows.craneReachesSpec).at F).post enc Try.prog Try.f7 false true false false) := by
  obtain ⟨places, hx⟩ := craneReaches_reads os enc
  refine returnsInHanded_of_row (C := Try.checked) (s := OpenSpec.ofChange Rows.craneReachesSpec) own started (by kernel_rfl) Try.func7
    (witness_row_at (enc := enc) (C := Try.checked) false (World.settled Try.prog os) #[.agg #[.string ⟨#[]⟩, .slice none 0 0], .agg #[.int .i64 0, .int .i64 0], .int .i64 0] rfl (by kernel_rfl) (by kernel_rfl) (by kernel_rfl)
      (OpenSpec.preRow_of_cond 8 hx (by kernel_rfl) (fun k hk => by cases hk) (by kernel_rfl) (laidMet_nil _ _))) ?_
  intro W base args ds gs before hval hW _ _ _ hL _ _
  exact craneReaches_contract H enc W base args ds gs before hval hW hL
theorem craneReaches_said : Rows.CraneReachesSaid :=
  OpenClaim.holds_of_cond 7 Try.f7 rfl rfl rfl rfl rfl rfl rfl ⟨rfl, rfl, rfl, rfl, rfl⟩ rfl rfl rfl rfl rfl (by kernel_rfl) Try.func7 (by kernel_rfl)
    (of_decide_eq_true (by kernel_rfl)) (by unfold Func.isWrapper; rw [if_neg (of_decide_eq_false (by kernel_rfl))]; exact ⟨rfl, rfl⟩)
    (fun os started H enc _ F => by rw [OpenClaim.pre_eq_preRow]; exact craneReaches_lifted os started H enc F)
#print axioms craneReaches_said
end Go.Proofs.Ytmaopenmbngenaa
