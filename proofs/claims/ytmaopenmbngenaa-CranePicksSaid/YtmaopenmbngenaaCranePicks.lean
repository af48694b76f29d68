/-
  The law CranePicks. Conditions: none. By an AI agent.
-/
import Derived.Test.YtmaopenmbngenaaCraneN
import Derived.Test.YtmaopenmbngenaaRows
namespace Go.Proofs.Ytmaopenmbngenaa
open Go Go.ChangeShapes Go.WideShapes Go.RowKit Go.ChangeAt
set_option linter.unusedSimpArgs false
set_option linter.unusedVariables false

theorem few_small {n : Nat} {nm : Nat → ByteArray} {rn : Nat → Nat} (h : fewB n nm rn = true) : ∀ i, i < n → rn i ≤ 1000 := by
  intro i hi
  unfold fewB at h
  simp only [Bool.and_eq_true, beq_iff_eq, decide_eq_false_iff_not, decide_eq_true_eq] at h
  obtain ⟨h1, h2, h3, h4⟩ := firstFrom_spec (fun i => decide (200 < (nm i).size) || decide (30 < rn i)) n 0
  have h5 := h4 i (by omega) (by omega)
  simp at h5
  omega
set_option maxRecDepth 20000 in
set_option maxHeartbeats 4000000 in
theorem cranePicks_walk (v : Value) (n : Nat) (nm : Nat → ByteArray) (cv : Nat → Value) (rn : Nat → Nat) (r q : Nat → Nat → Int) (x : ByteArray) (x0 x1 : Int) (w : World) (h : CranesAt w v n nm cv rn r q) : Calls Try.prog 5 #[v, .string x, .agg #[.int .i64 x0, .int .i64 x1]] w fun e w' => e = .returned (.bool true) ∧ Below w.heap.size w w' := by
  have HC := Lib.hid h
  clear h
  by_cases hF : fewB n nm rn = true
  · have hsmall := few_small hF
    have HF := Lib.hid hF
    have H1 := fun W h => find_any v n nm cv rn r q x W h hsmall
    have H2 := fun W h => rfind_any v n nm cv rn r q x W h
    have H3 := fun W h => pick_any v n nm cv rn r q x0 x1 W h
    have H4 := fun W h => rpick_any v n nm cv rn r q x0 x1 W h
    obtain ⟨S, hS⟩ : ∃ S, pickName n nm (findF n nm x) = S := ⟨_, rfl⟩
    obtain ⟨B, hB⟩ : ∃ B, decide (findF n nm x < n) = B := ⟨_, rfl⟩
    obtain ⟨m, hm⟩ : ∃ m, findLen n rn (findF n nm x) = m := ⟨_, rfl⟩
    obtain ⟨rr, hr⟩ : ∃ rr, r (findF n nm x) = rr := ⟨_, rfl⟩
    obtain ⟨qq, hq⟩ : ∃ qq, q (findF n nm x) = qq := ⟨_, rfl⟩
    obtain ⟨S2, hS2⟩ : ∃ S, pickName n nm (pickF n rn r q x0 x1) = S := ⟨_, rfl⟩
    obtain ⟨B2, hB2⟩ : ∃ B, decide (pickF n rn r q x0 x1 < n) = B := ⟨_, rfl⟩
    simp only [hS, hB, hm, hr, hq] at H1 H2
    simp only [hS2, hB2] at H3 H4
    have HFIND := Lib.hid H1
    have HRFIND := Lib.hid H2
    have HPICK := Lib.hid H3
    have HRPICK := Lib.hid H4
    clear H1 H2 H3 H4 hS hB hm hr hq hS2 hB2 hF hsmall
    go_enter Try.func5, Try.ntmps5
    go_wp2_with fail
    (go_at_call 9; refine (few_any _ _ _ _ _ _ _ _ (HC.out.below (by go_grown))).mono ?_; rintro e w1 ⟨rfl, hb1⟩)
    rw [HF.out]
    have HB1 : Hid (Below (w.alloc (.cells #[.int .i64 x0, .int .i64 x1] 32)).heap.size (w.alloc (.cells #[.int .i64 x0, .int .i64 x1] 32)) w1) := hb1
    clear hb1
    have z1 : w.heap.size < w1.heap.size := by have := HB1.out.size; simp at this; omega
    have x10 : w1.cell? ⟨w.heap.size, 0, none⟩ = some (.int .i64 x0) := by rw [HB1.out.cell (p := ⟨_, _, none⟩) (by simp)]; simp [go_sem]
    have x11 : w1.cell? ⟨w.heap.size, 1, none⟩ = some (.int .i64 x1) := by rw [HB1.out.cell (p := ⟨_, _, none⟩) (by simp)]; simp [go_sem]
    go_wp2_with fail
    (go_at_call 17; refine (HFIND.out _ ((HC.out.below (below_step (w := w) (by go_grown) HB1.out)))).mono ?_; rintro e w2 ⟨sv, rfl, hp1, hb1⟩)
    have HB2 : Hid (Below (w.alloc (.cells #[.int .i64 x0, .int .i64 x1] 32)).heap.size (w.alloc (.cells #[.int .i64 x0, .int .i64 x1] 32)) w2) := HB1.out.trans (hb1.mono HB1.out.size)
    obtain ⟨o1, c1, rfl, -, -⟩ := hp1.form
    have HP1 := Lib.hid hp1
    clear hb1 hp1
    have z2 : w.heap.size < w2.heap.size := by have := HB2.out.size; simp at this; omega
    have x20 : w2.cell? ⟨w.heap.size, 0, none⟩ = some (.int .i64 x0) := by rw [HB2.out.cell (p := ⟨_, _, none⟩) (by simp)]; simp [go_sem]
    have x21 : w2.cell? ⟨w.heap.size, 1, none⟩ = some (.int .i64 x1) := by rw [HB2.out.cell (p := ⟨_, _, none⟩) (by simp)]; simp [go_sem]
    go_wp2_with fail
    (go_at_call 18; refine (HRFIND.out _ (((HC.out.below (below_step (w := w) (by go_grown) HB2.out))).below ((Below.refl w2.heap.size w2).alloc (Nat.le_refl _) _))).mono ?_; rintro e w3 ⟨sv, rfl, hp1, hb1⟩)
    have HG3 : Hid (Below (w2.alloc (.cells #[.string S, .slice o1 m c1] 29)).heap.size (w2.alloc (.cells #[.string S, .slice o1 m c1] 29)) w3) := hb1
    have HB3 : Hid (Below (w.alloc (.cells #[.int .i64 x0, .int .i64 x1] 32)).heap.size (w.alloc (.cells #[.int .i64 x0, .int .i64 x1] 32)) w3) := (HB2.out.alloc HB2.out.size _).trans (hb1.mono (by have := HB2.out.size; simp at this ⊢; omega))
    obtain ⟨o2, c2, rfl, -, -⟩ := hp1.form
    have HP2 := Lib.hid hp1
    clear hb1 hp1
    have z3 : w.heap.size < w3.heap.size := by have := HB3.out.size; simp at this; omega
    have x30 : w3.cell? ⟨w.heap.size, 0, none⟩ = some (.int .i64 x0) := by rw [HB3.out.cell (p := ⟨_, _, none⟩) (by simp)]; simp [go_sem]
    have x31 : w3.cell? ⟨w.heap.size, 1, none⟩ = some (.int .i64 x1) := by rw [HB3.out.cell (p := ⟨_, _, none⟩) (by simp)]; simp [go_sem]
    have y3 : w2.heap.size < w3.heap.size := by have := HG3.out.size; simp at this; omega
    go_wp2_with fail
    (go_at_call 19; refine (HPICK.out _ (((HC.out.below (below_step (w := w) (by go_grown) HB3.out))).below ((Below.refl w3.heap.size w3).alloc (Nat.le_refl _) _))).mono ?_; rintro e w4 ⟨rfl, hb1⟩)
    have HH4 : Hid (Below (w3.alloc (.cells #[.string S, .slice o2 m c2] 29)).heap.size (w3.alloc (.cells #[.string S, .slice o2 m c2] 29)) w4) := hb1
    have HB4 : Hid (Below (w.alloc (.cells #[.int .i64 x0, .int .i64 x1] 32)).heap.size (w.alloc (.cells #[.int .i64 x0, .int .i64 x1] 32)) w4) := (HB3.out.alloc HB3.out.size _).trans (hb1.mono (by have := HB3.out.size; simp at this ⊢; omega))
    clear hb1
    have z4 : w.heap.size < w4.heap.size := by have := HB4.out.size; simp at this; omega
    have x40 : w4.cell? ⟨w.heap.size, 0, none⟩ = some (.int .i64 x0) := by rw [HB4.out.cell (p := ⟨_, _, none⟩) (by simp)]; simp [go_sem]
    have x41 : w4.cell? ⟨w.heap.size, 1, none⟩ = some (.int .i64 x1) := by rw [HB4.out.cell (p := ⟨_, _, none⟩) (by simp)]; simp [go_sem]
    go_wp2_with fail
    (go_at_call 20; refine (HRPICK.out _ ((HC.out.below (below_step (w := w) (by go_grown) HB4.out)))).mono ?_; rintro e w5 ⟨rfl, hb1⟩)
    have HH5 : Hid (Below (w3.alloc (.cells #[.string S, .slice o2 m c2] 29)).heap.size (w3.alloc (.cells #[.string S, .slice o2 m c2] 29)) w5) := HH4.out.trans (hb1.mono HH4.out.size)
    have HB5 : Hid (Below (w.alloc (.cells #[.int .i64 x0, .int .i64 x1] 32)).heap.size (w.alloc (.cells #[.int .i64 x0, .int .i64 x1] 32)) w5) := HB4.out.trans (hb1.mono HB4.out.size)
    clear hb1
    have z5 : w.heap.size < w5.heap.size := by have := HB5.out.size; simp at this; omega
    have x50 : w5.cell? ⟨w.heap.size, 0, none⟩ = some (.int .i64 x0) := by rw [HB5.out.cell (p := ⟨_, _, none⟩) (by simp)]; simp [go_sem]
    have x51 : w5.cell? ⟨w.heap.size, 1, none⟩ = some (.int .i64 x1) := by rw [HB5.out.cell (p := ⟨_, _, none⟩) (by simp)]; simp [go_sem]
    have y5 : w3.heap.size < w5.heap.size := by have := HH5.out.size; simp at this; omega
    have yy5 : w2.heap.size < w5.heap.size := by omega
    have b50 : w5.cell? ⟨w3.heap.size, 0, none⟩ = some (.string S) := by rw [HH5.out.cell (p := ⟨_, _, none⟩) (by simp)]; simp [go_sem]
    have b51 : w5.cell? ⟨w3.heap.size, 1, none⟩ = some (.slice o2 m c2) := by rw [HH5.out.cell (p := ⟨_, _, none⟩) (by simp)]; simp [go_sem]
    have a50 : w5.cell? ⟨w2.heap.size, 0, none⟩ = some (.string S) := by rw [HH5.out.cell (p := ⟨_, _, none⟩) (by simp; omega), World.cell?_alloc_lt _ _ _ y3, HG3.out.cell (p := ⟨_, _, none⟩) (by simp)]; simp [go_sem]
    have a51 : w5.cell? ⟨w2.heap.size, 1, none⟩ = some (.slice o1 m c1) := by rw [HH5.out.cell (p := ⟨_, _, none⟩) (by simp; omega), World.cell?_alloc_lt _ _ _ y3, HG3.out.cell (p := ⟨_, _, none⟩) (by simp)]; simp [go_sem]
    go_wp2_with fail
    (go_at_call 21; refine (same_yes _ _ _ _ _ _ _ ((((HP1.out.below ((Below.refl w2.heap.size w2).alloc (Nat.le_refl _) _)).below HG3.out).below ((Below.refl w3.heap.size w3).alloc (Nat.le_refl _) _)).below HH5.out) ((HP2.out.below ((Below.refl w3.heap.size w3).alloc (Nat.le_refl _) _)).below HH5.out)).mono ?_; rintro e w6 ⟨rfl, hb1⟩)
    have HB6 : Hid (Below (w.alloc (.cells #[.int .i64 x0, .int .i64 x1] 32)).heap.size (w.alloc (.cells #[.int .i64 x0, .int .i64 x1] 32)) w6) := HB5.out.trans (hb1.mono HB5.out.size)
    clear hb1
    go_wp2_with fail
    (go_at_call 12; refine (alive_any _).mono ?_; rintro e w7 ⟨rfl, hb1⟩)
    have HB7 : Hid (Below (w.alloc (.cells #[.int .i64 x0, .int .i64 x1] 32)).heap.size (w.alloc (.cells #[.int .i64 x0, .int .i64 x1] 32)) w7) := HB6.out.trans (hb1.mono HB6.out.size)
    clear hb1
    go_wp2
    go_returns
    exact ⟨rfl, below_step (w := w) (by go_grown) HB7.out⟩
  · have hF2 : fewB n nm rn = false := by simpa using hF
    have HF := Lib.hid hF2
    clear hF hF2
    go_enter Try.func5, Try.ntmps5
    go_wp2_with fail
    (go_at_call 9; refine (few_any _ _ _ _ _ _ _ _ (HC.out.below (by go_grown))).mono ?_; rintro e w1 ⟨rfl, hb1⟩)
    rw [HF.out]
    have HB1 : Hid (Below (w.alloc (.cells #[.int .i64 x0, .int .i64 x1] 32)).heap.size (w.alloc (.cells #[.int .i64 x0, .int .i64 x1] 32)) w1) := hb1
    clear hb1
    have z1 : w.heap.size < w1.heap.size := by have := HB1.out.size; simp at this; omega
    have x10 : w1.cell? ⟨w.heap.size, 0, none⟩ = some (.int .i64 x0) := by rw [HB1.out.cell (p := ⟨_, _, none⟩) (by simp)]; simp [go_sem]
    have x11 : w1.cell? ⟨w.heap.size, 1, none⟩ = some (.int .i64 x1) := by rw [HB1.out.cell (p := ⟨_, _, none⟩) (by simp)]; simp [go_sem]
    go_wp2_with fail
    (go_at_call 12; refine (alive_any _).mono ?_; rintro e w2 ⟨rfl, hb1⟩)
    have HB2 := Lib.hid (HB1.out.trans (hb1.mono HB1.out.size))
    clear hb1
    go_wp2
    go_returns
    exact ⟨rfl, below_step (w := w) (by go_grown) HB2.out⟩

set_option maxRecDepth 100000 in
theorem cranePicks_contract (H : Type) (enc : TypeId × Value → H) (W : World) (base : Nat) (args : Array Value) (ds gs : List (DataW H)) (before : List MemPlace)
    (hval : ∀ (j : Nat) t v, Try.f5.params[j]? = some t → args[j]? = some v → Value.okWide Try.prog W .any base t v)
    (hW : DataW.Whole enc Try.prog Try.f5.params.toList Rows.cranePicksSpec.vars false W args.toList ds gs before) (hL : laidMetH Try.prog Rows.cranePicksRow.laid W) :
    Calls Try.prog 5 args W fun e W' => ∃ v, e = .returned v ∧ Rows.cranePicksSpec.post enc Try.prog Try.f5 false true false false W args v W' := by
  have hW' := hW
  obtain ⟨p, q, hA0, hV, rfl, hfz, hnd⟩ := hW
  have hA : DataW.TrodAll enc Try.prog W 0 (fun _ => true) true Try.f5.params.toList args.toList ds p := hA0
  rw [Try.params5] at hA hval
  obtain ⟨v0, vs0, d0, ds0, p0, q0, hargs, rfl, rfl, h0, r0⟩ := trodAll_cons hA
  obtain ⟨v1, vs1, d1, ds1, p1, q1, rfl, rfl, rfl, h1, r1⟩ := trodAll_cons r0
  obtain ⟨v2, vs2, d2, ds2, p2, q2, rfl, rfl, rfl, h2, r2⟩ := trodAll_cons r1
  obtain ⟨rfl, rfl, rfl⟩ := trodAll_nil r2
  obtain rfl : args = #[v0, v1, v2] := by cases args; simp_all
  obtain ⟨n, nm, cv, rn, rr, qq, hcr⟩ := cranes_of (hval 0 22 v0 rfl rfl) h0
  obtain ⟨x, rfl⟩ := okWide_string (show Try.prog.underlying 9 = some .string by kernel_rfl) (hval 1 9 v1 rfl rfl)
  obtain ⟨zs2, rfl, hl2, hb2⟩ := flat_open_array (n := 8) (m := 2) (e := 3) (by kernel_rfl) (by kernel_rfl) (by kernel_rfl) (hval 2 32 v2 rfl rfl) h2
  obtain ⟨x0, x1, rfl⟩ := list2 hl2
  refine (cranePicks_walk _ n nm cv rn rr qq x x0 x1 W hcr).mono fun e W' ⟨he, hb⟩ => ?_
  subst he
  exact ⟨_, rfl, law_post laidOut (by kernel_rfl) (by kernel_rfl) Try.underlying4 rfl hW' (fun _ => rfl) hb⟩
theorem cranePicks_reads (os : Os) {H : Type} (enc : TypeId × Value → H) : ∃ places, DataW.whole enc Try.prog ((World.settled Try.prog os).forCall (fun _ _ => 0) ⟨#[], #[.slice none 0 0, .string ⟨#[]⟩, .agg #[.int .i64 0, .int .i64 0]], []⟩).memory Try.f5.params.toList Rows.cranePicksSpec.vars false (#[.slice none 0 0, .string ⟨#[]⟩, .agg #[.int .i64 0, .int .i64 0]] : Array Value).toList 8 = some ([.nil, .lit (.string []), .agg [.lit (.int .i64 0), .lit (.int .i64 0)]], [], places) := ⟨[], by kernel_rfl⟩
set_option maxRecDepth 100000 in
theorem cranePicks_lifted (os : Os) (started : os.Started) (H : Type) (enc : TypeId × Value → H) (F : Stop.Interp) :
    ReturnsInHanded {} Try.checked os 5 .any ((OpenSpec.ofChange Rows.cranePicksSpec).preRow enc Try.prog Try.f5 Rows.cranePicksRow.domain false Rows.cranePicksRow.laid) (((OpenSpec.ofChange Rows.cranePicksSpec).at F).post enc Try.prog Try.f5 false true false false) := by
  obtain ⟨places, hx⟩ := cranePicks_reads os enc
  refine returnsInHanded_of_row (C := Try.checked) (s := OpenSpec.ofChange Rows.cranePicksSpec) own started (by kernel_rfl) Try.func5
    (witness_row_at (enc := enc) (C := Try.checked) false (World.settled Try.prog os) #[.slice none 0 0, .string ⟨#[]⟩, .agg #[.int .i64 0, .int .i64 0]] rfl (by kernel_rfl) (by kernel_rfl) (by kernel_rfl)
      (OpenSpec.preRow_of_cond 8 hx (by kernel_rfl) (fun k hk => by cases hk) (by kernel_rfl) (laidMet_nil _ _))) ?_
  intro W base args ds gs before hval hW _ _ _ hL _ _
  exact cranePicks_contract H enc W base args ds gs before hval hW hL
theorem cranePicks_said : Rows.CranePicksSaid :=
  OpenClaim.holds_of_cond 5 Try.f5 rfl rfl rfl rfl rfl rfl rfl ⟨rfl, rfl, rfl, rfl, rfl⟩ rfl rfl rfl rfl rfl (by kernel_rfl) Try.func5 (by kernel_rfl)
    (of_decide_eq_true (by kernel_rfl)) (by unfold Func.isWrapper; rw [if_neg (of_decide_eq_false (by kernel_rfl))]; exact ⟨rfl, rfl⟩)
    (fun os started H enc _ F => by rw [OpenClaim.pre_eq_preRow]; exact cranePicks_lifted os started H enc F)
#print axioms cranePicks_said
end Go.Proofs.Ytmaopenmbngenaa
