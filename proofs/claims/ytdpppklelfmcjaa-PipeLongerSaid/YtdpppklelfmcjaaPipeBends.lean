/-
  The law PipeBends. Conditions: none. By an AI agent.
-/
import Derived.Test.YtdpppklelfmcjaaPipeL
import Derived.Test.YtdpppklelfmcjaaOpen
import Derived.Test.YtdpppklelfmcjaaRows
namespace Go.Proofs.Ytdpppklelfmcjaa
open Go Go.ChangeShapes Go.WideShapes Go.RowKit Go.ChangeAt
set_option linter.unusedSimpArgs false
set_option linter.unusedVariables false

theorem arc_bd {r : Int} (h1 : 1 ≤ r) (h2 : r ≤ 10000) : r + 1 ≤ arcF r ∧ arcF r ≤ 2 * r := by unfold arcF; omega
theorem sum_ge {f : Nat → Int} {B : Int} : ∀ {n : Nat}, (∀ i, i < n → B ≤ f i) → B * n ≤ sumTo f n
  | 0, _ => by simp [sumTo]
  | n + 1, h => by
    have h1 := sum_ge (f := f) (n := n) (fun i hi => h i (by omega))
    have h2 := h n (by omega)
    unfold sumTo
    rw [show B * ((n + 1 : Nat) : Int) = B * n + B by rw [Int.natCast_add, Int.mul_add]; simp]
    omega
theorem leg_pos {x y z : Nat → Int} {i : Nat} (h : badB x y z i = false) : 1 ≤ legV x y z i := by
  have ha := good_axis h
  have hc := isAxis_cases ha
  have q1 : ∀ d : Int, (sgn d = 1 ∨ sgn d = -1) → 1 ≤ mx d (-d) := fun d hd => by
    rw [sgn_def] at hd
    unfold mx
    split at hd <;> (try split at hd) <;> split <;> omega
  have q2 : ∀ d : Int, 0 ≤ mx d (-d) := fun d => by unfold mx; split <;> omega
  have a := q2 (x (i + 1) - x i)
  have b := q2 (y (i + 1) - y i)
  have c := q2 (z (i + 1) - z i)
  unfold legV
  rcases hc with ⟨_, h1, _⟩ | ⟨_, h1, _⟩ | ⟨_, h1, _⟩
  · have := q1 _ h1; omega
  · have := q1 _ h1; omega
  · have := q1 _ h1; omega
/-- P43.6 -/
theorem bends_law {m : Nat} {x y z : Nat → Int} {r : Int} (hm : 1 ≤ m) (r1 : 1 ≤ r) (r2 : r ≤ 10000) (hG : allTo (fun i => !badB x y z i) m = true) (hS : allTo (fun i => !shortB x y z (m + 1) r i) m = true) :
    1 ≤ sumTo (legV x y z) m + ((m : Int) - 1) * (arcF r - 2 * r) ∧ sumTo (legV x y z) m + ((m : Int) - 1) * (arcF r - 2 * r) ≤ sumTo (legV x y z) m ∧ sumTo (legV x y z) m - (sumTo (legV x y z) m + ((m : Int) - 1) * (arcF r - 2 * r)) ≤ ((m : Int) - 1) * (r - 1) := by
  obtain ⟨a1, a2⟩ := arc_bd r1 r2
  have hp : ((m : Int) - 1) * (-(r - 1)) ≤ ((m : Int) - 1) * (arcF r - 2 * r) := Int.mul_le_mul_of_nonneg_left (by omega) (by omega)
  have hq : ((m : Int) - 1) * (arcF r - 2 * r) ≤ ((m : Int) - 1) * 0 := Int.mul_le_mul_of_nonneg_left (by omega) (by omega)
  rw [Int.mul_zero] at hq
  rw [Int.mul_neg] at hp
  refine ⟨?_, by omega, by omega⟩
  have hs : r * m ≤ sumTo (legV x y z) m ∨ (m = 1 ∧ 1 ≤ sumTo (legV x y z) m) := by
    by_cases h1 : m = 1
    · subst h1
      right
      refine ⟨rfl, ?_⟩
      have := leg_pos (allTo_have hG 0 (by omega))
      unfold sumTo sumTo
      omega
    · left
      refine sum_ge fun i hi => ?_
      have h2 := allTo_have hS i hi
      unfold shortB at h2
      have h3 : ¬ legV x y z i < r * bendsI (m + 1) i := by simpa using h2
      have h4 : 1 ≤ bendsI (m + 1) i := by unfold bendsI; split <;> split <;> omega
      have h5 : r * 1 ≤ r * bendsI (m + 1) i := Int.mul_le_mul_of_nonneg_left h4 (by omega)
      omega
  rcases hs with hs | ⟨h1, hs⟩
  · have e : ((m : Int) - 1) * (r - 1) = r * m - r - m + 1 := by
      rw [Int.sub_mul, Int.mul_sub, Int.mul_comm (m : Int) r]; omega
    omega
  · subst h1
    simp at hp
    have : ((1 : Nat) : Int) - 1 = 0 := by omega
    rw [this, Int.zero_mul]
    omega
set_option maxRecDepth 20000 in
set_option maxHeartbeats 4000000 in
theorem pipeBends_walk (v : Value) (n : Nat) (x y z : Nat → Int) (r : Int) (w : World) (h : VecsAt w v n x y z) :
    Calls Try.prog 7 #[v, .int .i64 r] w fun e w' => e = .returned (.bool true) ∧ Below w.heap.size w w' := by
  obtain ⟨oa, cap, rfl, hn0, -⟩ := h.form
  have HV := Lib.hid h
  clear h
  by_cases hs : n ≤ 60
  · obtain ⟨C, hC⟩ : ∃ C, checkF n x y z r = C := ⟨_, rfl⟩
    obtain ⟨T, hT⟩ : ∃ T, lengthF n x y z r = T := ⟨_, rfl⟩
    by_cases h0 : C = 0
    · subst h0
      obtain ⟨m2, m32, hA, r1, r2, hG, hS⟩ := check_zero hC
      have hT2 : T = sumTo (legV x y z) (n - 1) + mx ((n : Int) - 2) 0 * (arcF r - 2 * r) := by rw [← hT]; unfold lengthF; rw [if_pos hC]
      obtain ⟨m, hm⟩ : ∃ m, n = m + 1 := ⟨n - 1, by omega⟩
      subst hm
      simp only [Nat.add_sub_cancel] at hG hS hT2
      have hB : mx (((m + 1 : Nat) : Int) - 2) 0 = (m : Int) - 1 := by unfold mx; split <;> omega
      rw [hB] at hT2
      obtain ⟨t1, t2, t3⟩ := bends_law (by omega) r1 r2 hG hS
      rw [← hT2] at t1 t2 t3
      have hin := inP_all hA
      have sb := sum_bd (f := legV x y z) (n := m) (fun i hi => leg_bd hin i (by omega))
      obtain ⟨sb0, sb1⟩ := sb
      obtain ⟨q0, q1⟩ := mul_in (B := 31) (C := 10000) (x := (m : Int) - 1) (y := r - 1) ⟨by omega, by omega⟩ ⟨by omega, by omega⟩
      simp only [Int.reduceMul, Int.reduceNeg] at q0 q1
      have HLB := Lib.hid (leg_bd hin)
      have HB := Lib.hid hB
      have HC := Lib.hid hC
      have HT := Lib.hid hT
      have HLN : Hid (legN (m + 1) x y z = m) := by show _ = _; unfold legN; rw [if_pos hA]; rfl
      have m1 : 1 ≤ m := by omega
      clear hA hG hS hT2 hin hB hC hT hs hn0 m2
      go_enter Try.func7, Try.ntmps7
      go_wp2_with fail
      (go_at_call 13; refine (length_pts _ _ _ _ _ _ _ HV.out).mono ?_; rintro e w1 ⟨rfl, hb⟩)
      rw [HC.out, HT.out]
      have HB1 := Lib.hid (hb)
      clear hb
      go_wp2_with fail
      (go_at_call 18; refine (legs_any _ _ _ _ _ _ (HV.out.below HB1.out) (by omega)).mono ?_; rintro e w2 ⟨l, rfl, hl, -, hb⟩)
      rw [HLN.out] at hl
      have HB2 := Lib.hid (below_step HB1.out hb)
      obtain ⟨ol, capl, rfl, hln, hlel⟩ := hl.form
      have HLEL := Lib.hid hlel
      clear hl hlel hb
      go_wp2
      go_loopw [8, 9] (fun t i wr => ∃ k : Nat, k ≤ m ∧ i = .int .i64 (k : Int) ∧ t = .int .i64 (sumTo (legV x y z) k) ∧ Below w2.heap.size w2 wr) (fun _ i _ => m - (intOf i).toNat)
      case atStart => exact ⟨0, by omega, rfl, rfl, Below.refl _ _⟩
      case round =>
        obtain ⟨q, hq, rfl, rfl, hb⟩ := hrel
        have sc := sum_bd (f := legV x y z) (n := q) (fun i hi => HLB.out i (by omega))
        obtain ⟨sc0, sc1⟩ := sc
        by_cases hlq : q < m
        · obtain ⟨b, off, rfl, hbl, hcl⟩ := HLEL.out q hlq
          have c0 : wr.cell? ⟨b, off + q, none⟩ = some (.int .i64 (legV x y z q)) := (hb.cell (p := ⟨_, _, none⟩) hbl).trans (hcl q hlq)
          have hbr : b < wr.heap.size := Nat.lt_of_lt_of_le hbl hb.size
          have HBr := Lib.hid hb
          have lb := HLB.out q (by omega)
          obtain ⟨lb0, lb1⟩ := lb
          clear hcl hb
          go_wp2
          go_roundw
          case rel => exact ⟨q + 1, by omega, by go_num, rfl, HBr.out⟩
          case measure => simp [intOf]; omega
        · have e : q = m := by omega
          subst e
          have HB3 := Lib.hid (below_step HB2.out hb)
          clear hb
          have g1 : decide (1 ≤ T) = true := decide_eq_true t1
          have g2 : decide (T ≤ sumTo (legV x y z) q) = true := decide_eq_true t2
          have g3 : decide (sumTo (legV x y z) q - T ≤ ((q : Int) - 1) * (r - 1)) = true := decide_eq_true t3
          go_wp2_with fail
          (go_at_call 15; refine (bends_val _ (HV.out.below HB3.out) HB.out).mono ?_; rintro e w4 ⟨rfl, hb⟩)
          have HB4 := Lib.hid (below_step HB3.out hb)
          clear hb
          go_wp2_with fail
          (go_at_call 10; refine (awake_any _).mono ?_; rintro e w5 ⟨rfl, hb⟩)
          have HB5 := Lib.hid (below_step HB4.out hb)
          clear hb
          go_wp2
          go_returns
          exact ⟨rfl, HB5.out⟩
    · have hT2 : T = 0 := by rw [← hT]; unfold lengthF; rw [if_neg (by rw [hC]; exact h0)]
      subst hT2
      have HC := Lib.hid hC
      have HT := Lib.hid hT
      have k0 : (C != 0) = true := by simpa using h0
      clear hT hC h0
      go_enter Try.func7, Try.ntmps7
      go_wp2_with fail
      (go_at_call 13; refine (length_pts _ _ _ _ _ _ _ HV.out).mono ?_; rintro e w1 ⟨rfl, hb⟩)
      rw [HC.out, HT.out]
      have HB1 := Lib.hid (hb)
      clear hb
      go_wp2_with fail
      (go_at_call 10; refine (awake_any _).mono ?_; rintro e w2 ⟨rfl, hb⟩)
      have HB2 := Lib.hid (below_step HB1.out hb)
      clear hb
      go_wp2
      go_returns
      exact ⟨rfl, HB2.out⟩
  · have hb60 : 60 < n := by omega
    clear hs
    go_enter Try.func7, Try.ntmps7
    go_wp2_with fail
    (go_at_call 10; refine (awake_any _).mono ?_; rintro e w1 ⟨rfl, hb⟩)
    have HB1 := Lib.hid (hb)
    clear hb
    go_wp2
    go_returns
    exact ⟨rfl, HB1.out⟩

set_option maxRecDepth 100000 in
theorem pipeBends_contract (H : Type) (enc : TypeId × Value → H) (W : World) (base : Nat) (args : Array Value) (ds gs : List (DataW H)) (before : List MemPlace)
    (hval : ∀ (j : Nat) t v, Try.f7.params[j]? = some t → args[j]? = some v → Value.okWide Try.prog W .any base t v)
    (hW : DataW.Whole enc Try.prog Try.f7.params.toList Rows.pipeBendsSpec.vars false W args.toList ds gs before) (hL : laidMetH Try.prog Rows.pipeBendsRow.laid W) :
    Calls Try.prog 7 args W fun e W' => ∃ v, e = .returned v ∧ Rows.pipeBendsSpec.post enc Try.prog Try.f7 false true false false W args v W' := by
  have hW' := hW
  obtain ⟨p, q, hA0, hV, rfl, hfz, hnd⟩ := hW
  have hA : DataW.TrodAll enc Try.prog W 0 (fun _ => true) true Try.f7.params.toList args.toList ds p := hA0
  rw [Try.params7] at hA hval
  obtain ⟨v0, vs0, d0, ds0, p0, q0, hargs, rfl, rfl, h0, r0⟩ := trodAll_cons hA
  obtain ⟨v1, vs1, d1, ds1, p1, q1, rfl, rfl, rfl, h1, r1⟩ := trodAll_cons r0
  obtain ⟨rfl, rfl, rfl⟩ := trodAll_nil r1
  obtain rfl : args = #[v0, v1] := by cases args; simp_all
  obtain ⟨n, ff, hff, hbd⟩ := flat_slice (n := 8) (e := 40) (sz := 3) (by kernel_rfl) (by kernel_rfl) (by decide) (by kernel_rfl) (hval 0 22 v0 rfl rfl) h0
  have hvv := vecs_of_flat hff
  obtain ⟨r, rfl, rfl, rfl, _w1⟩ := open_int Try.underlying3 (hval 1 3 v1 rfl rfl) h1
  refine (pipeBends_walk _ n _ _ _ r W hvv).mono fun e W' ⟨he, hb⟩ => ?_
  subst he
  exact ⟨_, rfl, law_post laidOut (by kernel_rfl) (by kernel_rfl) Try.underlying4 rfl hW' (fun _ => rfl) hb⟩
theorem pipeBends_reads (os : Os) {H : Type} (enc : TypeId × Value → H) : ∃ places, DataW.whole enc Try.prog ((World.settled Try.prog os).forCall (fun _ _ => 0) ⟨#[], #[.slice none 0 0, .int .i64 0], []⟩).memory Try.f7.params.toList Rows.pipeBendsSpec.vars false (#[.slice none 0 0, .int .i64 0] : Array Value).toList 8 = some ([.nil, .lit (.int .i64 0)], [], places) := ⟨[], by kernel_rfl⟩
set_option maxRecDepth 100000 in
theorem pipeBends_lifted (os : Os) (started : os.Started) (H : Type) (enc : TypeId × Value → H) (F : Stop.Interp) :
    ReturnsInHanded {} Try.checked os 7 .any ((OpenSpec.ofChange Rows.pipeBendsSpec).preRow enc Try.prog Try.f7 Rows.pipeBendsRow.domain false Rows.pipeBendsRow.laid) (((OpenSpec.ofChange Rows.pipeBendsSpec).at F).post enc Try.prog Try.f7 false true false false) := by
  obtain ⟨places, hx⟩ := pipeBends_reads os enc
  refine returnsInHanded_of_row (C := Try.checked) (s := OpenSpec.ofChange Rows.pipeBendsSpec) own started (by kernel_rfl) Try.func7
    (witness_row_at (enc := enc) (C := Try.checked) false (World.settled Try.prog os) #[.slice none 0 0, .int .i64 0] rfl (by kernel_rfl) (by kernel_rfl) (by kernel_rfl)
      (OpenSpec.preRow_of_cond 8 hx (by kernel_rfl) (fun k hk => by cases hk) (by kernel_rfl) (laidMet_nil _ _))) ?_
  intro W base args ds gs before hval hW _ _ _ hL _ _
  exact pipeBends_contract H enc W base args ds gs before hval hW hL
theorem pipeBends_said : Rows.PipeBendsSaid :=
  OpenClaim.holds_of_cond 7 Try.f7 rfl rfl rfl rfl rfl rfl rfl ⟨rfl, rfl, rfl, rfl, rfl⟩ rfl rfl rfl rfl rfl (by kernel_rfl) Try.func7 (by kernel_rfl)
    (of_decide_eq_true (by kernel_rfl)) (by unfold Func.isWrapper; rw [if_neg (of_decide_eq_false (by kernel_rfl))]; exact ⟨rfl, rfl⟩)
    (fun os started H enc _ F => by rw [OpenClaim.pre_eq_preRow]; exact pipeBends_lifted os started H enc F)
#print axioms pipeBends_said
end Go.Proofs.Ytdpppklelfmcjaa
