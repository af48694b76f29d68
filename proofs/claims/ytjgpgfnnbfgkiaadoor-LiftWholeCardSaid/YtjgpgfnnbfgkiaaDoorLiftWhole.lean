/-
  The loads are together the gross mass, or one more, and the gross mass is at least the mass and five per cent. Conditions: none (the card ties the two tables of unicode/utf8 to the program's text). By an AI agent.
-/
import Derived.Test.YtjgpgfnnbfgkiaaDoorLiftR
import Derived.Test.YtjgpgfnnbfgkiaaDoorLiftP
namespace Go.Proofs.YtjgpgfnnbfgkiaaDoor
open Go Go.ChangeShapes Go.WideShapes Go.RowKit Go.ChangeAt
set_option linter.unusedSimpArgs false
set_option linter.unusedVariables false
set_option maxRecDepth 20000 in
set_option maxHeartbeats 8000000 in
theorem liftWhole_walk (blk : ByteArray) (hv : Value) (n : Nat) (cr : Nat → ByteArray) (hx hy hr : Nat → Int) (m x y z v : Int) (w : World) (hm : MaxLenIs w) (hh : HooksAt w hv n cr hx hy hr) : Calls Tryd.prog 6 #[.agg #[.string blk, hv], .agg #[.int .i64 m, .int .i64 x, .int .i64 y, .int .i64 z, .int .i64 v]] w fun e w' => e = .returned (.bool true) ∧ Below w.heap.size w w' := by
  have HM := Lib.hid hm
  have HH := Lib.hid hh
  obtain ⟨oa, cap, rfl, hn, -⟩ := hh.form
  obtain ⟨G, GE, hG⟩ : ∃ G GE, grossF m x y z v = (G, GE) := ⟨_, _, rfl⟩
  obtain ⟨L, LE, hL⟩ : ∃ L LE, loadsF n hx hy m x y z v = (L, LE) := ⟨_, _, rfl⟩
  have HG := Lib.hid hG
  have HL := Lib.hid hL
  clear hm hh hL hG
  by_cases h10 : 10 < n
  · have b10 : decide (10 < (n : Int)) = true := decide_eq_true (by omega)
    go_enter Tryd.func6, Tryd.ntmps6
    go_wp2_with fail
    (go_at_call 13; refine (awake_any _ (HM.out.below (((Below.refl w.heap.size w).alloc (Nat.le_refl _) _).alloc (by simp) _))).mono ?_; rintro e w1 ⟨rfl, hb⟩)
    have HB1 : Hid (Below w.heap.size w w1) := by
      show Below _ _ _
      exact below_step (w := w) (by go_grown) hb
    clear hb
    go_wp2
    go_returns
    exact ⟨rfl, HB1.out⟩
  · have b10 : decide (10 < (n : Int)) = false := decide_eq_false (by omega)
    go_enter Tryd.func6, Tryd.ntmps6
    go_wp2_with fail
    (go_at_call 11; refine (gross_any _ _ _ _ _ _).mono ?_; rintro e w1 ⟨rfl, hb⟩)
    rw [HG.out]
    have hs1 := hb.size
    (try simp only [World.size_alloc, World.size_setCell] at hs1)
    have z10 : w.heap.size < w1.heap.size := by omega
    have z11 : w.heap.size + 1 < w1.heap.size := by omega
    have d01 : w1.cell? ⟨w.heap.size, 0, none⟩ = some (.string blk) := (hb.cell (p := ⟨_, _, none⟩) (by simp <;> omega)).trans (by simp [go_sem])
    have d11 : w1.cell? ⟨w.heap.size, 1, none⟩ = some (.slice oa n cap) := (hb.cell (p := ⟨_, _, none⟩) (by simp <;> omega)).trans (by simp [go_sem])
    have c01 : w1.cell? ⟨w.heap.size + 1, 0, none⟩ = some (.int .i64 m) := (hb.cell (p := ⟨_, _, none⟩) (by simp <;> omega)).trans (by simp [go_sem])
    have c11 : w1.cell? ⟨w.heap.size + 1, 1, none⟩ = some (.int .i64 x) := (hb.cell (p := ⟨_, _, none⟩) (by simp <;> omega)).trans (by simp [go_sem])
    have c21 : w1.cell? ⟨w.heap.size + 1, 2, none⟩ = some (.int .i64 y) := (hb.cell (p := ⟨_, _, none⟩) (by simp <;> omega)).trans (by simp [go_sem])
    have c31 : w1.cell? ⟨w.heap.size + 1, 3, none⟩ = some (.int .i64 z) := (hb.cell (p := ⟨_, _, none⟩) (by simp <;> omega)).trans (by simp [go_sem])
    have c41 : w1.cell? ⟨w.heap.size + 1, 4, none⟩ = some (.int .i64 v) := (hb.cell (p := ⟨_, _, none⟩) (by simp <;> omega)).trans (by simp [go_sem])
    have HB1 : Hid (Below w.heap.size w w1) := by
      show Below _ _ _
      exact below_step (w := w) (by go_grown) hb
    clear hb hs1
    go_wp2_with fail
    (go_at_call 14; refine (loads_any blk _ n cr hx hy hr m x y z v _ (HH.out.below HB1.out)).mono ?_; rintro e w2 ⟨lv, rfl, hlv, -, hb⟩)
    rw [HL.out] at hlv ⊢
    have HV := Lib.hid hlv
    obtain ⟨ol, cl, rfl, -, hll⟩ := hlv.form
    have HLL := Lib.hid hll
    clear hlv hll
    have hs2 := hb.size
    (try simp only [World.size_alloc, World.size_setCell] at hs2)
    have z20 : w.heap.size < w2.heap.size := by omega
    have z21 : w.heap.size + 1 < w2.heap.size := by omega
    have d02 : w2.cell? ⟨w.heap.size, 0, none⟩ = some (.string blk) := (hb.cell (p := ⟨_, _, none⟩) z10).trans d01
    have d12 : w2.cell? ⟨w.heap.size, 1, none⟩ = some (.slice oa n cap) := (hb.cell (p := ⟨_, _, none⟩) z10).trans d11
    have c02 : w2.cell? ⟨w.heap.size + 1, 0, none⟩ = some (.int .i64 m) := (hb.cell (p := ⟨_, _, none⟩) z11).trans c01
    have c12 : w2.cell? ⟨w.heap.size + 1, 1, none⟩ = some (.int .i64 x) := (hb.cell (p := ⟨_, _, none⟩) z11).trans c11
    have c22 : w2.cell? ⟨w.heap.size + 1, 2, none⟩ = some (.int .i64 y) := (hb.cell (p := ⟨_, _, none⟩) z11).trans c21
    have c32 : w2.cell? ⟨w.heap.size + 1, 3, none⟩ = some (.int .i64 z) := (hb.cell (p := ⟨_, _, none⟩) z11).trans c31
    have c42 : w2.cell? ⟨w.heap.size + 1, 4, none⟩ = some (.int .i64 v) := (hb.cell (p := ⟨_, _, none⟩) z11).trans c41
    have HB2 : Hid (Below w.heap.size w w2) := by
      show Below _ _ _
      exact below_step HB1.out hb
    clear hb hs2
    by_cases hle : LE = 0
    · subst hle
      obtain ⟨f0, f1⟩ := loads_facts (show (loadsF n hx hy m x y z v).2 = 0 by rw [HL.out])
      obtain ⟨g0, g1, g2⟩ := gross_facts f0
      rw [HG.out] at f0 g0 g1 g2
      rw [HG.out, HL.out] at f1
      have f0 : GE = 0 := f0
      have g0 : 0 ≤ G := g0
      have g1 : G ≤ 4611686018427387 := g1
      have g2 : 105 * m ≤ 100 * G := g2
      have hmass := HG.out
      subst f0
      have hwok := (gross_ok (show (grossF m x y z v).2 = 0 by rw [HG.out])).1.1
      obtain ⟨w0, w1'⟩ := hwok
      clear hmass
      rcases f1 with ⟨rfl, hl1⟩ | ⟨rfl, a, b, hl1, a0, b0, a1, b1, ab⟩
      · have hl1 : L = [G] := hl1
        subst hl1
        obtain ⟨b1, o1, rfl, hb1l, hc1⟩ := HLL.out 0 (by simp)
        have e0 : w2.cell? ⟨b1, o1, none⟩ = some (.int .i64 G) := hc1 0 (by simp)
        clear hc1
        simp only [List.length_cons, List.length_nil]
        go_wp2
        go_loopw [9, 10] (fun s i wr => ((i = .int .i64 0 ∧ s = .int .i64 (0)) ∨ (i = .int .i64 1 ∧ s = .int .i64 (G))) ∧ Below w2.heap.size w2 wr) (fun _ i _ => 1 - (intOf i).toNat)
        case atStart => exact ⟨.inl ⟨rfl, rfl⟩, Below.refl _ _⟩
        case round =>
          obtain ⟨hst, hb⟩ := hrel
          have HBr := Lib.hid hb
          have hbr : b1 < wr.heap.size := by have := hb.size; omega
          have r0 := (hb.cell (p := ⟨b1, o1, none⟩) hb1l).trans e0
          have d13 := (hb.cell (p := ⟨w.heap.size, 1, none⟩) z20).trans d12
          have c03 := (hb.cell (p := ⟨w.heap.size + 1, 0, none⟩) z21).trans c02
          have q0 : w.heap.size < wr.heap.size := by have := hb.size; omega
          have q1 : w.heap.size + 1 < wr.heap.size := by have := hb.size; omega
          clear hb
          rcases hst with ⟨rfl, rfl⟩ | ⟨rfl, rfl⟩
          · go_wp2
            go_roundw
            case rel => exact ⟨.inr (⟨rfl, by first | rfl | go_num⟩), HBr.out⟩
            case measure => simp [intOf]
          · have HB3 := Lib.hid (below_step HB2.out HBr.out)
            go_wp2_with fail
            (go_at_call 13; refine (awake_any _ (HM.out.below HB3.out)).mono ?_; rintro e w4 ⟨rfl, hb⟩)
            have HB4 := Lib.hid (below_step HB3.out hb)
            clear hb
            go_wp2
            go_returns
            exact ⟨rfl, HB4.out⟩
      · have hl1 : L = [a, b] := hl1
        subst hl1
        obtain ⟨b1, o1, rfl, hb1l, hc1⟩ := HLL.out 0 (by simp)
        have e0 : w2.cell? ⟨b1, o1, none⟩ = some (.int .i64 a) := hc1 0 (by simp)
        have e1 : w2.cell? ⟨b1, o1 + 1, none⟩ = some (.int .i64 b) := hc1 1 (by simp)
        clear hc1
        simp only [List.length_cons, List.length_nil]
        go_wp2
        go_loopw [9, 10] (fun s i wr => ((i = .int .i64 0 ∧ s = .int .i64 (0)) ∨ (i = .int .i64 1 ∧ s = .int .i64 (a)) ∨ (i = .int .i64 2 ∧ s = .int .i64 (a + b))) ∧ Below w2.heap.size w2 wr) (fun _ i _ => 2 - (intOf i).toNat)
        case atStart => exact ⟨.inl ⟨rfl, rfl⟩, Below.refl _ _⟩
        case round =>
          obtain ⟨hst, hb⟩ := hrel
          have HBr := Lib.hid hb
          have hbr : b1 < wr.heap.size := by have := hb.size; omega
          have r0 := (hb.cell (p := ⟨b1, o1, none⟩) hb1l).trans e0
          have r1 := (hb.cell (p := ⟨b1, o1 + 1, none⟩) hb1l).trans e1
          have d13 := (hb.cell (p := ⟨w.heap.size, 1, none⟩) z20).trans d12
          have c03 := (hb.cell (p := ⟨w.heap.size + 1, 0, none⟩) z21).trans c02
          have q0 : w.heap.size < wr.heap.size := by have := hb.size; omega
          have q1 : w.heap.size + 1 < wr.heap.size := by have := hb.size; omega
          clear hb
          rcases hst with ⟨rfl, rfl⟩ | ⟨rfl, rfl⟩ | ⟨rfl, rfl⟩
          · go_wp2
            go_roundw
            case rel => exact ⟨.inr (.inl ⟨rfl, by first | rfl | go_num⟩), HBr.out⟩
            case measure => simp [intOf]
          · go_wp2
            go_roundw
            case rel => exact ⟨.inr (.inr (⟨rfl, by first | rfl | go_num⟩)), HBr.out⟩
            case measure => simp [intOf]
          · have HB3 := Lib.hid (below_step HB2.out HBr.out)
            go_wp2_with fail
            (go_at_call 13; refine (awake_any _ (HM.out.below HB3.out)).mono ?_; rintro e w4 ⟨rfl, hb⟩)
            have HB4 := Lib.hid (below_step HB3.out hb)
            clear hb
            go_wp2
            go_returns
            exact ⟨rfl, HB4.out⟩
    · have hnil := loads_none (show (loadsF n hx hy m x y z v).2 ≠ 0 by rw [HL.out]; exact hle)
      rw [HL.out] at hnil
      have hnil : L = [] := hnil
      subst hnil
      have k0 : (LE != 0) = true := by simpa using hle
      clear hle
      go_wp2_with fail
      (go_at_call 13; refine (awake_any _ (HM.out.below HB2.out)).mono ?_; rintro e w3 ⟨rfl, hb⟩)
      have HB3 := Lib.hid (below_step HB2.out hb)
      clear hb
      go_wp2
      go_returns
      exact ⟨rfl, HB3.out⟩

set_option maxRecDepth 100000 in
theorem liftWhole_contract (H : Type) (enc : TypeId × Value → H) (W : World) (base : Nat) (args : Array Value) (ds gs : List (DataW H)) (before : List MemPlace)
    (hval : ∀ (j : Nat) t v, Tryd.f6.params[j]? = some t → args[j]? = some v → Value.okWide Tryd.prog W .any base t v)
    (hW : DataW.Whole enc Tryd.prog Tryd.f6.params.toList Rows.liftWholeSpec.vars false W args.toList ds gs before) (hL : laidMetH Tryd.prog Rows.liftWholeRow.laid W) (hSh : W.ShapedOpen Tryd.prog) :
    Calls Tryd.prog 6 args W fun e W' => ∃ v, e = .returned v ∧ Rows.liftWholeSpec.post enc Tryd.prog Tryd.f6 false true false false W args v W' := by
  have hW' := hW
  obtain ⟨p, q, hA0, hV, rfl, hfz, hnd⟩ := hW
  have hA : DataW.TrodAll enc Tryd.prog W 0 (fun _ => true) true Tryd.f6.params.toList args.toList ds p := hA0
  rw [Tryd.params6] at hA hval
  obtain ⟨v0, vs0, d0, ds0, p0, q0, hargs, rfl, rfl, h0, r0⟩ := trodAll_cons hA
  obtain ⟨v1, vs1, d1, ds1, p1, q1, rfl, rfl, rfl, h1, r1⟩ := trodAll_cons r0
  obtain ⟨rfl, rfl, rfl⟩ := trodAll_nil r1
  obtain rfl : args = #[v0, v1] := by cases args; simp_all
  obtain ⟨blk, hv, n, cr, hx, hy, hr, rfl, hbk, hh⟩ := lift_arg (hval 0 31 v0 rfl rfl) h0
  obtain ⟨m, x, y, z, v, rfl⟩ := weight_arg (hval 1 23 v1 rfl rfl) h1
  refine (liftWhole_walk blk hv n cr hx hy hr m x y z v W (maxLen_of W hSh) hh).mono fun e W' ⟨he, hb⟩ => ?_
  subst he
  exact ⟨_, rfl, law_post laidOut (by kernel_rfl) (by kernel_rfl) Tryd.underlying4 rfl hW' (fun _ => rfl) hb⟩
theorem liftWhole_laid (os : Os) : laidMet Tryd.prog Rows.liftWholeRow.laid ((laidWorld os).forCall (fun _ _ => 0) ⟨#[], #[.agg #[.string ⟨#[]⟩, .slice none 0 0], .agg #[.int .i64 0, .int .i64 0, .int .i64 0, .int .i64 0, .int .i64 0]], []⟩).memory := laidMet_of_run' 8 (by kernel_rfl) (by kernel_rfl)
theorem liftWhole_reads (os : Os) {H : Type} (enc : TypeId × Value → H) : ∃ places, DataW.whole enc Tryd.prog ((laidWorld os).forCall (fun _ _ => 0) ⟨#[], #[.agg #[.string ⟨#[]⟩, .slice none 0 0], .agg #[.int .i64 0, .int .i64 0, .int .i64 0, .int .i64 0, .int .i64 0]], []⟩).memory Tryd.f6.params.toList Rows.liftWholeSpec.vars false (#[.agg #[.string ⟨#[]⟩, .slice none 0 0], .agg #[.int .i64 0, .int .i64 0, .int .i64 0, .int .i64 0, .int .i64 0]] : Array Value).toList 8 = some ([.agg [.lit (.string []), .nil], .agg [.lit (.int .i64 0), .lit (.int .i64 0), .lit (.int .i64 0), .lit (.int .i64 0), .lit (.int .i64 0)]], [], places) := ⟨[], by kernel_rfl⟩
set_option maxRecDepth 100000 in
theorem liftWhole_lifted (os : Os) (started : os.Started) (H : Type) (enc : TypeId × Value → H) (F : Stop.Interp) :
    ReturnsInHanded {} Tryd.checked os 6 .any ((OpenSpec.ofChange Rows.liftWholeSpec).preRow enc Tryd.prog Tryd.f6 Rows.liftWholeRow.domain false Rows.liftWholeRow.laid) (((OpenSpec.ofChange Rows.liftWholeSpec).at F).post enc Tryd.prog Tryd.f6 false true false false) := by
  obtain ⟨places, hx⟩ := liftWhole_reads os enc
  refine returnsInHanded_of_row (C := Tryd.checked) (s := OpenSpec.ofChange Rows.liftWholeSpec) own started (by kernel_rfl) Tryd.func6
    (witness_row_at (enc := enc) (C := Tryd.checked) false (laidWorld os) #[.agg #[.string ⟨#[]⟩, .slice none 0 0], .agg #[.int .i64 0, .int .i64 0, .int .i64 0, .int .i64 0, .int .i64 0]] rfl (by kernel_rfl) (by kernel_rfl) (by kernel_rfl)
      (OpenSpec.preRow_of_cond 8 hx (by kernel_rfl) (fun k hk => by cases hk) (by kernel_rfl) (liftWhole_laid os))) ?_
  intro W base args ds gs before hval hW _ _ _ hL hSh _
  exact liftWhole_contract H enc W base args ds gs before hval hW hL hSh
theorem liftWhole_said : Rows.LiftWholeSaid :=
  OpenClaim.holds_of_cond 6 Tryd.f6 rfl rfl rfl rfl rfl rfl rfl ⟨rfl, rfl, rfl, rfl, rfl⟩ rfl rfl rfl rfl rfl (by kernel_rfl) Tryd.func6 (by kernel_rfl)
    (of_decide_eq_true (by kernel_rfl)) (by unfold Func.isWrapper; rw [if_neg (of_decide_eq_false (by kernel_rfl))]; exact ⟨rfl, rfl⟩)
    (fun os started H enc _ F => by rw [OpenClaim.pre_eq_preRow]; exact liftWhole_lifted os started H enc F)
theorem liftWhole_plain (f : FuncId) (fn : Func) (hf : Tryd.pinned.checked.prog.funcNamed "shipyard/shipyardlaw50.LiftWhole" = some f) (hfn : Tryd.pinned.checked.prog.funcs[f]? = some fn) :
    false = Tryd.pinned.checked.prog.looks [] ∧ ∀ (j : Nat) t, fn.params[j]? = some t → Tryd.pinned.checked.prog.wantsStandIn t = false := by
  obtain rfl : f = 6 := Option.some.inj ((show Tryd.prog.funcNamed "shipyard/shipyardlaw50.LiftWhole" = some 6 by kernel_rfl).symm.trans hf) |>.symm
  obtain rfl : fn = Tryd.f6 := (Option.some.inj (Tryd.func6.symm.trans hfn)).symm
  refine ⟨by kernel_rfl, fun j t ht => ?_⟩
  rw [Tryd.params6] at ht
  have hm : t ∈ [31, 23] := by simpa using Array.mem_of_getElem? ht
  have hall : ([31, 23].all fun u => !Tryd.prog.wantsStandIn u) = true := by kernel_rfl
  exact (show Tryd.prog.wantsStandIn t = false by simpa using List.all_eq_true.1 hall t hm)
/-- the card -/
theorem liftWhole_card : Rows.LiftWholeCardSaid :=
  Claim7.holds_tied_plain_at .later [] _ _ _ _ liftWhole_said (fun _ h => by cases h) (by kernel_rfl) (fun _ h => by cases h) liftWhole_row_tie rfl ⟨rfl, rfl⟩ (by kernel_rfl) rfl liftWhole_plain (by kernel_rfl)
#print axioms liftWhole_card
end Go.Proofs.YtjgpgfnnbfgkiaaDoor
