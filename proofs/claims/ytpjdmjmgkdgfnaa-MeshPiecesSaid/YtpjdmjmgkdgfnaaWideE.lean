/-
  The reference's Of, Cmp, Add, Mul, by walks. Conditions: none. By an AI agent.
-/
import Derived.Test.YtpjdmjmgkdgfnaaWideD
import Derived.Test.YtpjdmjmgkdgfnaaWideB
namespace Go.Proofs.Ytpjdmjmgkdgfnaa
open Go Go.RowKit Go.Shelf
set_option linter.unusedVariables false
set_option linter.unusedSimpArgs false
set_option maxRecDepth 100000
theorem Stored.c5 {w : World} {b : Nat} {t : TypeId} {x0 x1 x2 x3 x4 : Value} (h : w.heap[b]? = some (.cells #[x0, x1, x2, x3, x4] t)) (p0 p1 p2 p3 p4 : Value) : Stored w (((((w.setCell ⟨b, 0, none⟩ p0).setCell ⟨b, 1, none⟩ p1).setCell ⟨b, 2, none⟩ p2).setCell ⟨b, 3, none⟩ p3).setCell ⟨b, 4, none⟩ p4) b #[p0, p1, p2, p3, p4] t := by
  have h1 := ((((((Stored.refl h).set 0 p0).set 1 p1).set 2 p2).set 3 p3).set 4 p4)
  simpa only [List.setIfInBounds_toArray, List.set_cons_zero, List.set_cons_succ] using h1
theorem Stored.c8 {w : World} {b : Nat} {t : TypeId} {x0 x1 x2 x3 x4 x5 x6 x7 : Value} (h : w.heap[b]? = some (.cells #[x0, x1, x2, x3, x4, x5, x6, x7] t)) (p0 p1 p2 p3 p4 p5 p6 p7 : Value) : Stored w ((((((((w.setCell ⟨b, 0, none⟩ p0).setCell ⟨b, 1, none⟩ p1).setCell ⟨b, 2, none⟩ p2).setCell ⟨b, 3, none⟩ p3).setCell ⟨b, 4, none⟩ p4).setCell ⟨b, 5, none⟩ p5).setCell ⟨b, 6, none⟩ p6).setCell ⟨b, 7, none⟩ p7) b #[p0, p1, p2, p3, p4, p5, p6, p7] t := by
  have h1 := (((((((((Stored.refl h).set 0 p0).set 1 p1).set 2 p2).set 3 p3).set 4 p4).set 5 p5).set 6 p6).set 7 p7)
  simpa only [List.setIfInBounds_toArray, List.set_cons_zero, List.set_cons_succ] using h1

theorem size8 : (Try.prog.info? 84).map (fun i => i.size) = some 8 := by kernel_rfl
theorem split_is {x : Int} {b : Bool} {X : Nat → Int} (h : isW x b X) : dig 4294967296 8 (splitF X) ∧ valN 4294967296 (splitF X) 8 = (x.natAbs : Int) := ⟨split_dig h.2.1, (split_val X 4).trans h.2.2⟩
theorem sgB_is {x : Int} {b : Bool} {X : Nat → Int} (h : isW x b X) : sgB b (x.natAbs : Int) = b := by
  have h1 := h.1
  cases b with
  | false => have := of_decide_eq_false h1.symm; exact decide_eq_false (by simp)
  | true => have := of_decide_eq_true h1.symm; exact decide_eq_true (by rw [if_pos rfl]; omega)
theorem join_split_any (x : Int) (b : Bool) (X : Nat → Int) (w : World) (h : isW x b X) :
    Calls Try.prog 57 #[.bool b, .agg #[.int .u64 (splitF X 0), .int .u64 (splitF X 1), .int .u64 (splitF X 2), .int .u64 (splitF X 3), .int .u64 (splitF X 4), .int .u64 (splitF X 5), .int .u64 (splitF X 6), .int .u64 (splitF X 7)]] w fun e w' => e = .returned (.agg #[.bool b, .int .u64 (X 0), .int .u64 (X 1), .int .u64 (X 2), .int .u64 (X 3)]) ∧ Below w.heap.size w w' := by
  have h1 := join_any b (splitF X) w (split_is h).1
  rw [(split_is h).2, sgB_is h, join_split, join_split, join_split, join_split] at h1
  exact h1
theorem split_w (x : Int) (b : Bool) (X : Nat → Int) (w : World) (h : isW x b X) :
    Calls Try.prog 58 #[.agg #[.bool b, .int .u64 (X 0), .int .u64 (X 1), .int .u64 (X 2), .int .u64 (X 3)]] w fun e w' => e = .returned (.agg #[.int .u64 (splitF X 0), .int .u64 (splitF X 1), .int .u64 (splitF X 2), .int .u64 (splitF X 3), .int .u64 (splitF X 4), .int .u64 (splitF X 5), .int .u64 (splitF X 6), .int .u64 (splitF X 7)]) ∧ Below w.heap.size w w' := split_any b X w h.2.1
theorem rcompare_w (x y : Int) (b c : Bool) (X Y : Nat → Int) (w : World) (hx : isW x b X) (hy : isW y c Y) :
    Calls Try.prog 59 #[.agg #[.int .u64 (splitF X 0), .int .u64 (splitF X 1), .int .u64 (splitF X 2), .int .u64 (splitF X 3), .int .u64 (splitF X 4), .int .u64 (splitF X 5), .int .u64 (splitF X 6), .int .u64 (splitF X 7)], .agg #[.int .u64 (splitF Y 0), .int .u64 (splitF Y 1), .int .u64 (splitF Y 2), .int .u64 (splitF Y 3), .int .u64 (splitF Y 4), .int .u64 (splitF Y 5), .int .u64 (splitF Y 6), .int .u64 (splitF Y 7)]] w fun e w' => e = .returned (.int .i64 (cmpI (x.natAbs : Int) (y.natAbs : Int))) ∧ Below w.heap.size w w' := by
  have h := rcompare_any (splitF X) (splitF Y) w (split_is hx).1 (split_is hy).1
  rw [(split_is hx).2, (split_is hy).2] at h
  exact h
theorem rminus_w (x y : Int) (b c : Bool) (X Y : Nat → Int) (w : World) (hx : isW x b X) (hy : isW y c Y) (hl : (y.natAbs : Int) ≤ x.natAbs) :
    Calls Try.prog 76 #[.agg #[.int .u64 (splitF X 0), .int .u64 (splitF X 1), .int .u64 (splitF X 2), .int .u64 (splitF X 3), .int .u64 (splitF X 4), .int .u64 (splitF X 5), .int .u64 (splitF X 6), .int .u64 (splitF X 7)], .agg #[.int .u64 (splitF Y 0), .int .u64 (splitF Y 1), .int .u64 (splitF Y 2), .int .u64 (splitF Y 3), .int .u64 (splitF Y 4), .int .u64 (splitF Y 5), .int .u64 (splitF Y 6), .int .u64 (splitF Y 7)]] w fun e w' => e = .returned (.agg #[.int .u64 (dgF 4294967296 ((x.natAbs : Int) - y.natAbs) 0), .int .u64 (dgF 4294967296 ((x.natAbs : Int) - y.natAbs) 1), .int .u64 (dgF 4294967296 ((x.natAbs : Int) - y.natAbs) 2), .int .u64 (dgF 4294967296 ((x.natAbs : Int) - y.natAbs) 3), .int .u64 (dgF 4294967296 ((x.natAbs : Int) - y.natAbs) 4), .int .u64 (dgF 4294967296 ((x.natAbs : Int) - y.natAbs) 5), .int .u64 (dgF 4294967296 ((x.natAbs : Int) - y.natAbs) 6), .int .u64 (dgF 4294967296 ((x.natAbs : Int) - y.natAbs) 7)]) ∧ Below w.heap.size w w' := by
  refine (rminus_any (splitF X) (splitF Y) w (split_is hx).1 (split_is hy).1).mono ?_
  rintro e w' ⟨Z, k, rfl, hd, hk, he, hb⟩
  have hz := valN_bd (by decide) hd
  rw [(split_is hx).2, (split_is hy).2, pw8] at he
  rw [pw8] at hz
  have hk0 : k = 0 := by omega
  subst hk0
  have h1 := dgF_one (by decide) hd (show valN 4294967296 Z 8 = (x.natAbs : Int) - y.natAbs by omega)
  rw [h1 0 (by decide), h1 1 (by decide), h1 2 (by decide), h1 3 (by decide), h1 4 (by decide), h1 5 (by decide), h1 6 (by decide), h1 7 (by decide)]
  exact ⟨rfl, hb⟩
theorem rtimes_w (x y : Int) (b c : Bool) (X Y : Nat → Int) (w : World) (hx : isW x b X) (hy : isW y c Y) (hl : (x.natAbs : Int) * y.natAbs < 115792089237316195423570985008687907853269984665640564039457584007913129639936) :
    Calls Try.prog 77 #[.agg #[.int .u64 (splitF X 0), .int .u64 (splitF X 1), .int .u64 (splitF X 2), .int .u64 (splitF X 3), .int .u64 (splitF X 4), .int .u64 (splitF X 5), .int .u64 (splitF X 6), .int .u64 (splitF X 7)], .agg #[.int .u64 (splitF Y 0), .int .u64 (splitF Y 1), .int .u64 (splitF Y 2), .int .u64 (splitF Y 3), .int .u64 (splitF Y 4), .int .u64 (splitF Y 5), .int .u64 (splitF Y 6), .int .u64 (splitF Y 7)]] w fun e w' => e = .returned (.tuple #[.agg #[.int .u64 (dgF 4294967296 ((x.natAbs : Int) * y.natAbs) 0), .int .u64 (dgF 4294967296 ((x.natAbs : Int) * y.natAbs) 1), .int .u64 (dgF 4294967296 ((x.natAbs : Int) * y.natAbs) 2), .int .u64 (dgF 4294967296 ((x.natAbs : Int) * y.natAbs) 3), .int .u64 (dgF 4294967296 ((x.natAbs : Int) * y.natAbs) 4), .int .u64 (dgF 4294967296 ((x.natAbs : Int) * y.natAbs) 5), .int .u64 (dgF 4294967296 ((x.natAbs : Int) * y.natAbs) 6), .int .u64 (dgF 4294967296 ((x.natAbs : Int) * y.natAbs) 7)], .bool false]) ∧ Below w.heap.size w w' := by
  refine (times_any (splitF X) (splitF Y) w (split_is hx).1 (split_is hy).1 (by rw [(split_is hx).2, (split_is hy).2]; exact hl)).mono ?_
  rintro e w' ⟨Z, rfl, hd, he, hb⟩
  rw [(split_is hx).2, (split_is hy).2] at he
  have h1 := dgF_one (by decide) hd he
  rw [h1 0 (by decide), h1 1 (by decide), h1 2 (by decide), h1 3 (by decide), h1 4 (by decide), h1 5 (by decide), h1 6 (by decide), h1 7 (by decide)]
  exact ⟨rfl, hb⟩
theorem dg_is {m : Int} (h0 : 0 ≤ m) (h1 : m < 115792089237316195423570985008687907853269984665640564039457584007913129639936) : dig 4294967296 8 (dgF 4294967296 m) ∧ valN 4294967296 (dgF 4294967296 m) 8 = m := ⟨dgF_dig (by decide) m 8, by rw [dgF_val (by decide) 8, pw8, Int.emod_eq_of_lt h0 h1]⟩
theorem join_dg (n : Bool) (m : Int) (w : World) (h0 : 0 ≤ m) (h1 : m < 115792089237316195423570985008687907853269984665640564039457584007913129639936) :
    Calls Try.prog 57 #[.bool n, .agg #[.int .u64 (dgF 4294967296 m 0), .int .u64 (dgF 4294967296 m 1), .int .u64 (dgF 4294967296 m 2), .int .u64 (dgF 4294967296 m 3), .int .u64 (dgF 4294967296 m 4), .int .u64 (dgF 4294967296 m 5), .int .u64 (dgF 4294967296 m 6), .int .u64 (dgF 4294967296 m 7)]] w fun e w' => e = .returned (.agg #[.bool (sgB n m), .int .u64 ((joinF (dgF 4294967296 m)) 0), .int .u64 ((joinF (dgF 4294967296 m)) 1), .int .u64 ((joinF (dgF 4294967296 m)) 2), .int .u64 ((joinF (dgF 4294967296 m)) 3)]) ∧ Below w.heap.size w w' := by
  have h := join_any n (dgF 4294967296 m) w (dg_is h0 h1).1
  rw [(dg_is h0 h1).2] at h
  exact h
theorem join_isT {m : Int} {D : Nat → Int} (h : dig 4294967296 8 D) (hv : valN 4294967296 D 8 = m) : isW (-m) (sgB true m) (joinF D) := isW_sgT (join_dig h) ((join_val D 4).trans hv)
theorem join_isF {m : Int} {D : Nat → Int} (h : dig 4294967296 8 D) (hv : valN 4294967296 D 8 = m) : isW m (sgB false m) (joinF D) := isW_sgF (join_dig h) ((join_val D 4).trans hv)

set_option maxHeartbeats 2000000 in
theorem rOf_any (n : Int) (w : World) (h : -9223372036854775808 ≤ n ∧ n < 9223372036854775808) :
    Calls Try.prog 39 #[.int .i64 n] w fun e w' => ∃ X : Nat → Int, e = .returned (.agg #[.bool (decide (n < 0)), .int .u64 (X 0), .int .u64 (X 1), .int .u64 (X 2), .int .u64 (X 3)]) ∧ isW n (decide (n < 0)) X ∧ Below w.heap.size w w' := by
  by_cases hn : n < 0
  · have h0 : IntKind.i64.wrap (n + 1) = n + 1 := IntWalk.i64_in _ (by omega)
    have h1 : IntKind.i64.wrap (-(n + 1)) = -(n + 1) := IntWalk.i64_in _ (by omega)
    have h2 : IntKind.u64.wrap (-(n + 1)) = -(n + 1) := by rw [IntKind.wrap_u64]; omega
    have h3 : IntKind.u64.wrap (-(n + 1) + 1) = -n := by rw [IntKind.wrap_u64]; omega
    have kn : decide (n < 0) = true := decide_eq_true (by omega)
    have HDG : Hid (dig 18446744073709551616 4 (oneF (-n))) := dig_one (by decide) (by omega) 4
    have HV : Hid (valN 18446744073709551616 (oneF (-n)) 4 = (-n)) := val_one 3
    have HI : Hid (isW n true (oneF (-n))) := by
      have h := isW_sgT HDG.out HV.out
      rw [Int.neg_neg, show sgB true (-n) = true from by unfold sgB; simp; omega] at h
      exact h
    rw [kn]
    go_enter Try.func39, Try.ntmps39
    go_wp2
    all_goals (refine bodyPost_ret (v := .agg #[.bool true, .int .u64 (oneF (-n) 0), .int .u64 (oneF (-n) 1), .int .u64 (oneF (-n) 2), .int .u64 (oneF (-n) 3)]) (by simp (maxDischargeDepth := 9) [results, Try.results39, go_sem, oneF, *]) rfl ?_)
    exact ⟨_, rfl, HI.out, by go_grown⟩
  · have h1 : IntKind.u64.wrap n = n := by rw [IntKind.wrap_u64]; omega
    have kn : decide (n < 0) = false := decide_eq_false (by omega)
    have HDG : Hid (dig 18446744073709551616 4 (oneF n)) := dig_one (by decide) (by omega) 4
    have HV : Hid (valN 18446744073709551616 (oneF n) 4 = n) := val_one 3
    have HI : Hid (isW n false (oneF n)) := by
      have h := isW_sgF HDG.out HV.out
      rw [show sgB false n = false from by unfold sgB; simp; omega] at h
      exact h
    rw [kn]
    go_enter Try.func39, Try.ntmps39
    go_wp2
    all_goals (refine bodyPost_ret (v := .agg #[.bool false, .int .u64 (oneF n 0), .int .u64 (oneF n 1), .int .u64 (oneF n 2), .int .u64 (oneF n 3)]) (by simp (maxDischargeDepth := 9) [results, Try.results39, go_sem, oneF, *]) rfl ?_)
    exact ⟨_, rfl, HI.out, by go_grown⟩

set_option maxHeartbeats 2000000 in
theorem rCmp_any (x y : Int) (bx by' : Bool) (X Y : Nat → Int) (w : World) (hx : isW x bx X) (hy : isW y by' Y) :
    Calls Try.prog 37 #[.agg #[.bool bx, .int .u64 (X 0), .int .u64 (X 1), .int .u64 (X 2), .int .u64 (X 3)], .agg #[.bool by', .int .u64 (Y 0), .int .u64 (Y 1), .int .u64 (Y 2), .int .u64 (Y 3)]] w fun e w' => e = .returned (.int .i64 (cmpI x y)) ∧ Below w.heap.size w w' := by
  have HX := Lib.hid hx
  have HY := Lib.hid hy
  obtain ⟨CC, hCC⟩ : ∃ c, cmpI x y = c := ⟨_, rfl⟩
  have HCC := Lib.hid hCC
  rw [hCC]
  clear hCC hx hy
  cases bx with
  | true =>
    cases by' with
    | true =>
      have hx2 := of_decide_eq_true HX.out.1.symm
      have hy2 := of_decide_eq_true HY.out.1.symm
      have HE : Hid (cmpI (y.natAbs : Int) (x.natAbs : Int) = CC) := by
        show _ = _
        rw [← HCC.out]
        unfold cmpI
        split <;> split <;> (try split) <;> (try split) <;> omega
      clear hx2 hy2
      go_enter Try.func37, Try.ntmps37
      go_wp2_with fail
      refine wp_region_seq 14 [⟨10, 12, #[.bool false, .int .u64 0, .int .u64 0, .int .u64 0, .int .u64 0], 33⟩, ⟨11, 13, #[.bool false, .int .u64 0, .int .u64 0, .int .u64 0, .int .u64 0], 33⟩] [] (by kernel_rfl) (by kernel_rfl) (by kernel_rfl) (by kernel_rfl) (by kernel_rfl) ?_ ?_ ?_
      · intro r hr; cases hr
      · intro r hr; cases hr
      simp only [List.take_succ_cons, List.take_zero, fillL, Act.put, List.setIfInBounds_toArray, List.set_cons_zero, List.set_cons_succ]
      apply seq_is (by kernel_rfl)
      · intro u wx hb hd
        replace hb := hb.nil
        have hz := hb.size
        (try simp only [World.size_alloc, World.size_setCell] at hz)
        have hz0 : w.heap.size < wx.heap.size := by omega
        have hz1 : w.heap.size + 1 < wx.heap.size := by omega
        obtain ⟨hc, hf⟩ := bcell hb
        clear hb hz
        simp [depsE, Region.binds, updE, kindOf, Prp.is, Prp.any] at hd
        go_simp
        first | exact ⟨Below.refl _ _, rfl⟩ | rfl
      apply seq_is (by kernel_rfl)
      · intro u wx hb hd
        replace hb := hb.nil
        have hz := hb.size
        (try simp only [World.size_alloc, World.size_setCell] at hz)
        have hz0 : w.heap.size < wx.heap.size := by omega
        have hz1 : w.heap.size + 1 < wx.heap.size := by omega
        obtain ⟨hc, hf⟩ := bcell hb
        clear hb hz
        simp [depsE, Region.binds, updE, kindOf, Prp.is, Prp.any] at hd
        go_simp
        first | exact ⟨Below.refl _ _, rfl⟩ | rfl
      apply seq_is (by kernel_rfl)
      · intro u wx hb hd
        replace hb := hb.nil
        have hz := hb.size
        (try simp only [World.size_alloc, World.size_setCell] at hz)
        have hz0 : w.heap.size < wx.heap.size := by omega
        have hz1 : w.heap.size + 1 < wx.heap.size := by omega
        obtain ⟨hc, hf⟩ := bcell hb
        clear hb hz
        simp [depsE, Region.binds, updE, kindOf, Prp.is, Prp.any] at hd
        go_simp
        first | exact ⟨Below.refl _ _, rfl⟩ | rfl
      apply seq_is (by kernel_rfl)
      · intro u wx hb hd
        replace hb := hb.nil
        have hz := hb.size
        (try simp only [World.size_alloc, World.size_setCell] at hz)
        have hz0 : w.heap.size < wx.heap.size := by omega
        have hz1 : w.heap.size + 1 < wx.heap.size := by omega
        obtain ⟨hc, hf⟩ := bcell hb
        clear hb hz
        simp [depsE, Region.binds, updE, kindOf, Prp.is, Prp.any] at hd
        go_simp
        first | rfl | (go_at_call 58; refine (split_w x true X wx HX.out).mono ?_; rintro e w1 ⟨rfl, hb1⟩; first | exact ⟨rfl, hb1⟩ | exact ⟨_, rfl, hb1, rfl⟩)
      apply seq_is (by kernel_rfl)
      · intro u wx hb hd
        replace hb := hb.nil
        have hz := hb.size
        (try simp only [World.size_alloc, World.size_setCell] at hz)
        have hz0 : w.heap.size < wx.heap.size := by omega
        have hz1 : w.heap.size + 1 < wx.heap.size := by omega
        obtain ⟨hc, hf⟩ := bcell hb
        clear hb hz
        simp [depsE, Region.binds, updE, kindOf, Prp.is, Prp.any] at hd
        go_simp
        first | rfl | (go_at_call 57; refine (join_split_any x true X wx HX.out).mono ?_; rintro e w1 ⟨rfl, hb1⟩; first | exact ⟨rfl, hb1⟩ | exact ⟨_, rfl, hb1, rfl⟩)
      apply seq_is (by kernel_rfl)
      · intro u wx hb hd
        replace hb := hb.nil
        have hz := hb.size
        (try simp only [World.size_alloc, World.size_setCell] at hz)
        have hz0 : w.heap.size < wx.heap.size := by omega
        have hz1 : w.heap.size + 1 < wx.heap.size := by omega
        obtain ⟨hc, hf⟩ := bcell hb
        clear hb hz
        simp [depsE, Region.binds, updE, kindOf, Prp.is, Prp.any] at hd
        go_simp
        first | exact ⟨Below.refl _ _, rfl⟩ | rfl
      apply seq_is (by kernel_rfl)
      · intro u wx hb hd
        replace hb := hb.nil
        have hz := hb.size
        (try simp only [World.size_alloc, World.size_setCell] at hz)
        have hz0 : w.heap.size < wx.heap.size := by omega
        have hz1 : w.heap.size + 1 < wx.heap.size := by omega
        obtain ⟨hc, hf⟩ := bcell hb
        clear hb hz
        simp [depsE, Region.binds, updE, kindOf, Prp.is, Prp.any] at hd
        go_simp
        first | exact ⟨Below.refl _ _, rfl⟩ | rfl
      apply seq_is (by kernel_rfl)
      · intro u wx hb hd
        replace hb := hb.nil
        have hz := hb.size
        (try simp only [World.size_alloc, World.size_setCell] at hz)
        have hz0 : w.heap.size < wx.heap.size := by omega
        have hz1 : w.heap.size + 1 < wx.heap.size := by omega
        obtain ⟨hc, hf⟩ := bcell hb
        clear hb hz
        simp [depsE, Region.binds, updE, kindOf, Prp.is, Prp.any] at hd
        go_simp
        first | exact ⟨Below.refl _ _, rfl⟩ | rfl
      apply seq_is (by kernel_rfl)
      · intro u wx hb hd
        replace hb := hb.nil
        have hz := hb.size
        (try simp only [World.size_alloc, World.size_setCell] at hz)
        have hz0 : w.heap.size < wx.heap.size := by omega
        have hz1 : w.heap.size + 1 < wx.heap.size := by omega
        obtain ⟨hc, hf⟩ := bcell hb
        clear hb hz
        simp [depsE, Region.binds, updE, kindOf, Prp.is, Prp.any] at hd
        go_simp
        first | rfl | (go_at_call 58; refine (split_w y true Y wx HY.out).mono ?_; rintro e w1 ⟨rfl, hb1⟩; first | exact ⟨rfl, hb1⟩ | exact ⟨_, rfl, hb1, rfl⟩)
      apply seq_is (by kernel_rfl)
      · intro u wx hb hd
        replace hb := hb.nil
        have hz := hb.size
        (try simp only [World.size_alloc, World.size_setCell] at hz)
        have hz0 : w.heap.size < wx.heap.size := by omega
        have hz1 : w.heap.size + 1 < wx.heap.size := by omega
        obtain ⟨hc, hf⟩ := bcell hb
        clear hb hz
        simp [depsE, Region.binds, updE, kindOf, Prp.is, Prp.any] at hd
        go_simp
        first | rfl | (go_at_call 57; refine (join_split_any y true Y wx HY.out).mono ?_; rintro e w1 ⟨rfl, hb1⟩; first | exact ⟨rfl, hb1⟩ | exact ⟨_, rfl, hb1, rfl⟩)
      refine seq_var ⟨10, 12, #[.bool false, .int .u64 0, .int .u64 0, .int .u64 0, .int .u64 0], 33⟩ (by simp) rfl ?_ ?_
      · intro u wx hb
        refine ⟨by simp [Region.wanted], ?_⟩
        go_simp
        first | done | rfl | exact ⟨rfl, rfl⟩
      refine seq_var ⟨11, 13, #[.bool false, .int .u64 0, .int .u64 0, .int .u64 0, .int .u64 0], 33⟩ (by simp) rfl ?_ ?_
      · intro u wx hb
        refine ⟨by simp [Region.wanted], ?_⟩
        go_simp
        first | done | rfl | exact ⟨rfl, rfl⟩
      apply seq_sto_agg ⟨10, 12, #[.bool false, .int .u64 0, .int .u64 0, .int .u64 0, .int .u64 0], 33⟩ (by simp) rfl (by kernel_rfl) rfl (by kernel_rfl)
      · intro u wx hb hd
        replace hb := hb.nil
        have hz := hb.size
        (try simp only [World.size_alloc, World.size_setCell] at hz)
        have hz0 : w.heap.size < wx.heap.size := by omega
        have hz1 : w.heap.size + 1 < wx.heap.size := by omega
        obtain ⟨hc, hf⟩ := bcell hb
        clear hb hz
        simp [depsE, Region.binds, updE, kindOf, Prp.is, Prp.any] at hd
        refine ⟨by simp [Region.wanted], fun b' hub hlb hcells => ?_⟩
        have hub' : u 10 = .pointer (some ⟨b', 0, none⟩) := hub
        have hcells' : wx.heap[b']? = some (.cells #[.bool false, .int .u64 0, .int .u64 0, .int .u64 0, .int .u64 0] 33) := hcells
        have hat := cells_at5 hcells'
        have HCL := Lib.hid hcells'
        clear hcells hcells' hub
        go_simp
        exact Stored.c5 HCL.out _ _ _ _ _
      apply seq_sto_agg ⟨11, 13, #[.bool false, .int .u64 0, .int .u64 0, .int .u64 0, .int .u64 0], 33⟩ (by simp) rfl (by kernel_rfl) rfl (by kernel_rfl)
      · intro u wx hb hd
        replace hb := hb.nil
        have hz := hb.size
        (try simp only [World.size_alloc, World.size_setCell] at hz)
        have hz0 : w.heap.size < wx.heap.size := by omega
        have hz1 : w.heap.size + 1 < wx.heap.size := by omega
        obtain ⟨hc, hf⟩ := bcell hb
        clear hb hz
        simp [depsE, Region.binds, updE, kindOf, Prp.is, Prp.any] at hd
        refine ⟨by simp [Region.wanted], fun b' hub hlb hcells => ?_⟩
        have hub' : u 11 = .pointer (some ⟨b', 0, none⟩) := hub
        have hcells' : wx.heap[b']? = some (.cells #[.bool false, .int .u64 0, .int .u64 0, .int .u64 0, .int .u64 0] 33) := hcells
        have hat := cells_at5 hcells'
        have HCL := Lib.hid hcells'
        clear hcells hcells' hub
        go_simp
        exact Stored.c5 HCL.out _ _ _ _ _
      intro u w5 hb hE hV hP
      replace hb := hb.nil
      clear hP
      have e0 : u 0 = _ := endE_get hE 0 (by decide) (by simp [kindOf])
      have e1 : u 1 = _ := endE_get hE 1 (by decide) (by simp [kindOf])
      have e2 : u 2 = _ := endE_get hE 2 (by decide) (by simp [kindOf])
      have e3 : u 3 = _ := endE_get hE 3 (by decide) (by simp [kindOf])
      have e4 : u 4 = _ := endE_get hE 4 (by decide) (by simp [kindOf])
      have e5 : u 5 = _ := endE_get hE 5 (by decide) (by simp [kindOf])
      have e6 : u 6 = _ := endE_get hE 6 (by decide) (by simp [kindOf])
      have e7 : u 7 = _ := endE_get hE 7 (by decide) (by simp [kindOf])
      have e8 : u 8 = _ := endE_get hE 8 (by decide) (by simp [kindOf])
      have e9 : u 9 = _ := endE_get hE 9 (by decide) (by simp [kindOf])
      have e12 : u 12 = _ := endE_get hE 12 (by decide) (by simp [kindOf])
      have e13 : u 13 = _ := endE_get hE 13 (by decide) (by simp [kindOf])
      obtain ⟨⟨V0, pv0, lv0, qv0⟩, ⟨nq01, -⟩, ⟨⟨V1, pv1, lv1, qv1⟩, -, -⟩⟩ := hV
      replace qv0 : w5.heap[V0]? = some (.cells (u 12).cells 33) := qv0
      rw [e12] at qv0
      replace pv0 : u 10 = .pointer (some ⟨V0, 0, none⟩) := pv0
      obtain ⟨mV00, mV01, mV02, mV03, mV04, mfV0, msV0⟩ := cells_at5 qv0
      have HQV0 := Lib.hid qv0
      clear qv0
      replace qv1 : w5.heap[V1]? = some (.cells (u 13).cells 33) := qv1
      rw [e13] at qv1
      replace pv1 : u 11 = .pointer (some ⟨V1, 0, none⟩) := pv1
      obtain ⟨mV10, mV11, mV12, mV13, mV14, mfV1, msV1⟩ := cells_at5 qv1
      have HQV1 := Lib.hid qv1
      clear qv1
      have dV0V1 : V0 ≠ V1 := fun e => nq01 (by show u _ = u _; rw [pv0, pv1, e])
      clear nq01
      (try simp only [World.size_alloc, World.size_setCell] at lv0)
      have dV0w50 : V0 ≠ w.heap.size := by omega
      have dV0w51 : V0 ≠ w.heap.size + 1 := by omega
      (try have lbV0 : w.heap.size ≤ V0 := by omega)
      clear lv0
      (try simp only [World.size_alloc, World.size_setCell] at lv1)
      have dV1w50 : V1 ≠ w.heap.size := by omega
      have dV1w51 : V1 ≠ w.heap.size + 1 := by omega
      (try have lbV1 : w.heap.size ≤ V1 := by omega)
      clear lv1
      simp only [List.drop_succ_cons, List.drop_zero, List.take_succ_cons, List.take_zero, fillL, Act.put, List.setIfInBounds_toArray, List.set_cons_zero, List.set_cons_succ, e0, e1, e2, e3, e4, e5, e6, e7, e8, e9, e12, e13, pv0, pv1]
      clear e0 e1 e2 e3 e4 e5 e6 e7 e8 e9 e12 e13 pv0 pv1 hE
      have HBWw5 := Lib.hid hb
      have hw5 := below_step (w := w) (by first | assumption | go_grown) hb
      have hzw5 := hb.size
      (try simp only [World.size_alloc, World.size_setCell] at hzw5)
      have hzw50 : w.heap.size < w5.heap.size := by omega
      have hzw51 : w.heap.size + 1 < w5.heap.size := by omega
      have HHw5 := Lib.hid hb.block
      obtain ⟨hcw5, hfw5⟩ := bcell hb
      clear hb hzw5
      go_wp2_with fail
      refine wp_region_relw 6 (by kernel_rfl) (by kernel_rfl) (by kernel_rfl) ?_
      simp only [List.take_succ_cons, List.take_zero, fillL, Act.put, List.setIfInBounds_toArray, List.set_cons_zero, List.set_cons_succ]
      apply rel_is
      · intro u wx hb hd
        have hz := hb.size
        (try simp only [World.size_alloc, World.size_setCell] at hz)
        have hz0 : V0 < wx.heap.size := by omega
        have hz1 : V1 < wx.heap.size := by omega
        obtain ⟨hc, hf⟩ := bcell hb
        have HBX := Lib.hid hb
        clear hb hz
        simp [depsS, Region.binds, updS, Stay.is, Stay.any] at hd
        go_simp
        first | exact ⟨Below.refl _ _, rfl⟩ | rfl
      apply rel_is
      · intro u wx hb hd
        have hz := hb.size
        (try simp only [World.size_alloc, World.size_setCell] at hz)
        have hz0 : V0 < wx.heap.size := by omega
        have hz1 : V1 < wx.heap.size := by omega
        obtain ⟨hc, hf⟩ := bcell hb
        have HBX := Lib.hid hb
        clear hb hz
        simp [depsS, Region.binds, updS, Stay.is, Stay.any] at hd
        go_simp
        first | rfl | (go_at_call 58; refine (split_w y true Y wx HY.out).mono ?_; rintro e w1 ⟨rfl, hb1⟩; (try rw [HE.out]); first | exact ⟨rfl, hb1⟩ | exact ⟨_, rfl, hb1, rfl⟩)
      apply rel_is
      · intro u wx hb hd
        have hz := hb.size
        (try simp only [World.size_alloc, World.size_setCell] at hz)
        have hz0 : V0 < wx.heap.size := by omega
        have hz1 : V1 < wx.heap.size := by omega
        obtain ⟨hc, hf⟩ := bcell hb
        have HBX := Lib.hid hb
        clear hb hz
        simp [depsS, Region.binds, updS, Stay.is, Stay.any] at hd
        go_simp
        first | exact ⟨Below.refl _ _, rfl⟩ | rfl
      apply rel_is
      · intro u wx hb hd
        have hz := hb.size
        (try simp only [World.size_alloc, World.size_setCell] at hz)
        have hz0 : V0 < wx.heap.size := by omega
        have hz1 : V1 < wx.heap.size := by omega
        obtain ⟨hc, hf⟩ := bcell hb
        have HBX := Lib.hid hb
        clear hb hz
        simp [depsS, Region.binds, updS, Stay.is, Stay.any] at hd
        go_simp
        first | rfl | (go_at_call 58; refine (split_w x true X wx HX.out).mono ?_; rintro e w1 ⟨rfl, hb1⟩; (try rw [HE.out]); first | exact ⟨rfl, hb1⟩ | exact ⟨_, rfl, hb1, rfl⟩)
      apply rel_is
      · intro u wx hb hd
        have hz := hb.size
        (try simp only [World.size_alloc, World.size_setCell] at hz)
        have hz0 : V0 < wx.heap.size := by omega
        have hz1 : V1 < wx.heap.size := by omega
        obtain ⟨hc, hf⟩ := bcell hb
        have HBX := Lib.hid hb
        clear hb hz
        simp [depsS, Region.binds, updS, Stay.is, Stay.any] at hd
        go_simp
        first | rfl | (go_at_call 59; refine (rcompare_w y x true true Y X wx HY.out HX.out).mono ?_; rintro e w1 ⟨rfl, hb1⟩; (try rw [HE.out]); first | exact ⟨rfl, hb1⟩ | exact ⟨_, rfl, hb1, rfl⟩)
      apply rel_is
      · intro u wx hb hd
        have hz := hb.size
        (try simp only [World.size_alloc, World.size_setCell] at hz)
        have hz0 : V0 < wx.heap.size := by omega
        have hz1 : V1 < wx.heap.size := by omega
        obtain ⟨hc, hf⟩ := bcell hb
        have HBX := Lib.hid hb
        clear hb hz
        simp [depsS, Region.binds, updS, Stay.is, Stay.any] at hd
        go_simp
        first | exact ⟨Below.refl _ _, rfl⟩ | rfl
      intro u w6 hb hE
      have e0 : u 0 = _ := endS_get hE 0 (by decide)
      have e1 : u 1 = _ := endS_get hE 1 (by decide)
      have e2 : u 2 = _ := endS_get hE 2 (by decide)
      have e3 : u 3 = _ := endS_get hE 3 (by decide)
      have e4 : u 4 = _ := endS_get hE 4 (by decide)
      have e5 : u 5 = _ := endS_get hE 5 (by decide)
      simp only [List.drop_succ_cons, List.drop_zero, List.take_succ_cons, List.take_zero, fillL, Act.put, List.setIfInBounds_toArray, List.set_cons_zero, List.set_cons_succ, e0, e1, e2, e3, e4, e5]
      clear e0 e1 e2 e3 e4 e5 hE
      have HBw6 := Lib.hid (below_step (w := w5) (by first | assumption | go_grown) hb)
      have HBXw6 := Lib.hid hb
      have hzw6 := hb.size
      (try simp only [World.size_alloc, World.size_setCell] at hzw6)
      have hzw60 : V0 < w6.heap.size := by omega
      have hzw61 : V1 < w6.heap.size := by omega
      obtain ⟨hcw6, hfw6⟩ := bcell hb
      clear hb hzw6
      have hB6 : Below w.heap.size w w6 := below_step hw5 HBXw6.out
      go_wp2
      go_returns
      exact ⟨rfl, hB6⟩
    | false =>
      have hx2 := of_decide_eq_true HX.out.1.symm
      have hy2 := of_decide_eq_false HY.out.1.symm
      have HE : Hid (CC = -1) := by
        show _ = _
        rw [← HCC.out]
        unfold cmpI
        rw [if_pos (by omega)]
      clear hx2 hy2
      go_enter Try.func37, Try.ntmps37
      go_wp2_with fail
      refine wp_region_seq 14 [⟨10, 12, #[.bool false, .int .u64 0, .int .u64 0, .int .u64 0, .int .u64 0], 33⟩, ⟨11, 13, #[.bool false, .int .u64 0, .int .u64 0, .int .u64 0, .int .u64 0], 33⟩] [] (by kernel_rfl) (by kernel_rfl) (by kernel_rfl) (by kernel_rfl) (by kernel_rfl) ?_ ?_ ?_
      · intro r hr; cases hr
      · intro r hr; cases hr
      simp only [List.take_succ_cons, List.take_zero, fillL, Act.put, List.setIfInBounds_toArray, List.set_cons_zero, List.set_cons_succ]
      apply seq_is (by kernel_rfl)
      · intro u wx hb hd
        replace hb := hb.nil
        have hz := hb.size
        (try simp only [World.size_alloc, World.size_setCell] at hz)
        have hz0 : w.heap.size < wx.heap.size := by omega
        have hz1 : w.heap.size + 1 < wx.heap.size := by omega
        obtain ⟨hc, hf⟩ := bcell hb
        clear hb hz
        simp [depsE, Region.binds, updE, kindOf, Prp.is, Prp.any] at hd
        go_simp
        first | exact ⟨Below.refl _ _, rfl⟩ | rfl
      apply seq_is (by kernel_rfl)
      · intro u wx hb hd
        replace hb := hb.nil
        have hz := hb.size
        (try simp only [World.size_alloc, World.size_setCell] at hz)
        have hz0 : w.heap.size < wx.heap.size := by omega
        have hz1 : w.heap.size + 1 < wx.heap.size := by omega
        obtain ⟨hc, hf⟩ := bcell hb
        clear hb hz
        simp [depsE, Region.binds, updE, kindOf, Prp.is, Prp.any] at hd
        go_simp
        first | exact ⟨Below.refl _ _, rfl⟩ | rfl
      apply seq_is (by kernel_rfl)
      · intro u wx hb hd
        replace hb := hb.nil
        have hz := hb.size
        (try simp only [World.size_alloc, World.size_setCell] at hz)
        have hz0 : w.heap.size < wx.heap.size := by omega
        have hz1 : w.heap.size + 1 < wx.heap.size := by omega
        obtain ⟨hc, hf⟩ := bcell hb
        clear hb hz
        simp [depsE, Region.binds, updE, kindOf, Prp.is, Prp.any] at hd
        go_simp
        first | exact ⟨Below.refl _ _, rfl⟩ | rfl
      apply seq_is (by kernel_rfl)
      · intro u wx hb hd
        replace hb := hb.nil
        have hz := hb.size
        (try simp only [World.size_alloc, World.size_setCell] at hz)
        have hz0 : w.heap.size < wx.heap.size := by omega
        have hz1 : w.heap.size + 1 < wx.heap.size := by omega
        obtain ⟨hc, hf⟩ := bcell hb
        clear hb hz
        simp [depsE, Region.binds, updE, kindOf, Prp.is, Prp.any] at hd
        go_simp
        first | rfl | (go_at_call 58; refine (split_w x true X wx HX.out).mono ?_; rintro e w1 ⟨rfl, hb1⟩; first | exact ⟨rfl, hb1⟩ | exact ⟨_, rfl, hb1, rfl⟩)
      apply seq_is (by kernel_rfl)
      · intro u wx hb hd
        replace hb := hb.nil
        have hz := hb.size
        (try simp only [World.size_alloc, World.size_setCell] at hz)
        have hz0 : w.heap.size < wx.heap.size := by omega
        have hz1 : w.heap.size + 1 < wx.heap.size := by omega
        obtain ⟨hc, hf⟩ := bcell hb
        clear hb hz
        simp [depsE, Region.binds, updE, kindOf, Prp.is, Prp.any] at hd
        go_simp
        first | rfl | (go_at_call 57; refine (join_split_any x true X wx HX.out).mono ?_; rintro e w1 ⟨rfl, hb1⟩; first | exact ⟨rfl, hb1⟩ | exact ⟨_, rfl, hb1, rfl⟩)
      apply seq_is (by kernel_rfl)
      · intro u wx hb hd
        replace hb := hb.nil
        have hz := hb.size
        (try simp only [World.size_alloc, World.size_setCell] at hz)
        have hz0 : w.heap.size < wx.heap.size := by omega
        have hz1 : w.heap.size + 1 < wx.heap.size := by omega
        obtain ⟨hc, hf⟩ := bcell hb
        clear hb hz
        simp [depsE, Region.binds, updE, kindOf, Prp.is, Prp.any] at hd
        go_simp
        first | exact ⟨Below.refl _ _, rfl⟩ | rfl
      apply seq_is (by kernel_rfl)
      · intro u wx hb hd
        replace hb := hb.nil
        have hz := hb.size
        (try simp only [World.size_alloc, World.size_setCell] at hz)
        have hz0 : w.heap.size < wx.heap.size := by omega
        have hz1 : w.heap.size + 1 < wx.heap.size := by omega
        obtain ⟨hc, hf⟩ := bcell hb
        clear hb hz
        simp [depsE, Region.binds, updE, kindOf, Prp.is, Prp.any] at hd
        go_simp
        first | exact ⟨Below.refl _ _, rfl⟩ | rfl
      apply seq_is (by kernel_rfl)
      · intro u wx hb hd
        replace hb := hb.nil
        have hz := hb.size
        (try simp only [World.size_alloc, World.size_setCell] at hz)
        have hz0 : w.heap.size < wx.heap.size := by omega
        have hz1 : w.heap.size + 1 < wx.heap.size := by omega
        obtain ⟨hc, hf⟩ := bcell hb
        clear hb hz
        simp [depsE, Region.binds, updE, kindOf, Prp.is, Prp.any] at hd
        go_simp
        first | exact ⟨Below.refl _ _, rfl⟩ | rfl
      apply seq_is (by kernel_rfl)
      · intro u wx hb hd
        replace hb := hb.nil
        have hz := hb.size
        (try simp only [World.size_alloc, World.size_setCell] at hz)
        have hz0 : w.heap.size < wx.heap.size := by omega
        have hz1 : w.heap.size + 1 < wx.heap.size := by omega
        obtain ⟨hc, hf⟩ := bcell hb
        clear hb hz
        simp [depsE, Region.binds, updE, kindOf, Prp.is, Prp.any] at hd
        go_simp
        first | rfl | (go_at_call 58; refine (split_w y false Y wx HY.out).mono ?_; rintro e w1 ⟨rfl, hb1⟩; first | exact ⟨rfl, hb1⟩ | exact ⟨_, rfl, hb1, rfl⟩)
      apply seq_is (by kernel_rfl)
      · intro u wx hb hd
        replace hb := hb.nil
        have hz := hb.size
        (try simp only [World.size_alloc, World.size_setCell] at hz)
        have hz0 : w.heap.size < wx.heap.size := by omega
        have hz1 : w.heap.size + 1 < wx.heap.size := by omega
        obtain ⟨hc, hf⟩ := bcell hb
        clear hb hz
        simp [depsE, Region.binds, updE, kindOf, Prp.is, Prp.any] at hd
        go_simp
        first | rfl | (go_at_call 57; refine (join_split_any y false Y wx HY.out).mono ?_; rintro e w1 ⟨rfl, hb1⟩; first | exact ⟨rfl, hb1⟩ | exact ⟨_, rfl, hb1, rfl⟩)
      refine seq_var ⟨10, 12, #[.bool false, .int .u64 0, .int .u64 0, .int .u64 0, .int .u64 0], 33⟩ (by simp) rfl ?_ ?_
      · intro u wx hb
        refine ⟨by simp [Region.wanted], ?_⟩
        go_simp
        first | done | rfl | exact ⟨rfl, rfl⟩
      refine seq_var ⟨11, 13, #[.bool false, .int .u64 0, .int .u64 0, .int .u64 0, .int .u64 0], 33⟩ (by simp) rfl ?_ ?_
      · intro u wx hb
        refine ⟨by simp [Region.wanted], ?_⟩
        go_simp
        first | done | rfl | exact ⟨rfl, rfl⟩
      apply seq_sto_agg ⟨10, 12, #[.bool false, .int .u64 0, .int .u64 0, .int .u64 0, .int .u64 0], 33⟩ (by simp) rfl (by kernel_rfl) rfl (by kernel_rfl)
      · intro u wx hb hd
        replace hb := hb.nil
        have hz := hb.size
        (try simp only [World.size_alloc, World.size_setCell] at hz)
        have hz0 : w.heap.size < wx.heap.size := by omega
        have hz1 : w.heap.size + 1 < wx.heap.size := by omega
        obtain ⟨hc, hf⟩ := bcell hb
        clear hb hz
        simp [depsE, Region.binds, updE, kindOf, Prp.is, Prp.any] at hd
        refine ⟨by simp [Region.wanted], fun b' hub hlb hcells => ?_⟩
        have hub' : u 10 = .pointer (some ⟨b', 0, none⟩) := hub
        have hcells' : wx.heap[b']? = some (.cells #[.bool false, .int .u64 0, .int .u64 0, .int .u64 0, .int .u64 0] 33) := hcells
        have hat := cells_at5 hcells'
        have HCL := Lib.hid hcells'
        clear hcells hcells' hub
        go_simp
        exact Stored.c5 HCL.out _ _ _ _ _
      apply seq_sto_agg ⟨11, 13, #[.bool false, .int .u64 0, .int .u64 0, .int .u64 0, .int .u64 0], 33⟩ (by simp) rfl (by kernel_rfl) rfl (by kernel_rfl)
      · intro u wx hb hd
        replace hb := hb.nil
        have hz := hb.size
        (try simp only [World.size_alloc, World.size_setCell] at hz)
        have hz0 : w.heap.size < wx.heap.size := by omega
        have hz1 : w.heap.size + 1 < wx.heap.size := by omega
        obtain ⟨hc, hf⟩ := bcell hb
        clear hb hz
        simp [depsE, Region.binds, updE, kindOf, Prp.is, Prp.any] at hd
        refine ⟨by simp [Region.wanted], fun b' hub hlb hcells => ?_⟩
        have hub' : u 11 = .pointer (some ⟨b', 0, none⟩) := hub
        have hcells' : wx.heap[b']? = some (.cells #[.bool false, .int .u64 0, .int .u64 0, .int .u64 0, .int .u64 0] 33) := hcells
        have hat := cells_at5 hcells'
        have HCL := Lib.hid hcells'
        clear hcells hcells' hub
        go_simp
        exact Stored.c5 HCL.out _ _ _ _ _
      intro u w5 hb hE hV hP
      replace hb := hb.nil
      clear hP
      have e0 : u 0 = _ := endE_get hE 0 (by decide) (by simp [kindOf])
      have e1 : u 1 = _ := endE_get hE 1 (by decide) (by simp [kindOf])
      have e2 : u 2 = _ := endE_get hE 2 (by decide) (by simp [kindOf])
      have e3 : u 3 = _ := endE_get hE 3 (by decide) (by simp [kindOf])
      have e4 : u 4 = _ := endE_get hE 4 (by decide) (by simp [kindOf])
      have e5 : u 5 = _ := endE_get hE 5 (by decide) (by simp [kindOf])
      have e6 : u 6 = _ := endE_get hE 6 (by decide) (by simp [kindOf])
      have e7 : u 7 = _ := endE_get hE 7 (by decide) (by simp [kindOf])
      have e8 : u 8 = _ := endE_get hE 8 (by decide) (by simp [kindOf])
      have e9 : u 9 = _ := endE_get hE 9 (by decide) (by simp [kindOf])
      have e12 : u 12 = _ := endE_get hE 12 (by decide) (by simp [kindOf])
      have e13 : u 13 = _ := endE_get hE 13 (by decide) (by simp [kindOf])
      obtain ⟨⟨V0, pv0, lv0, qv0⟩, ⟨nq01, -⟩, ⟨⟨V1, pv1, lv1, qv1⟩, -, -⟩⟩ := hV
      replace qv0 : w5.heap[V0]? = some (.cells (u 12).cells 33) := qv0
      rw [e12] at qv0
      replace pv0 : u 10 = .pointer (some ⟨V0, 0, none⟩) := pv0
      obtain ⟨mV00, mV01, mV02, mV03, mV04, mfV0, msV0⟩ := cells_at5 qv0
      have HQV0 := Lib.hid qv0
      clear qv0
      replace qv1 : w5.heap[V1]? = some (.cells (u 13).cells 33) := qv1
      rw [e13] at qv1
      replace pv1 : u 11 = .pointer (some ⟨V1, 0, none⟩) := pv1
      obtain ⟨mV10, mV11, mV12, mV13, mV14, mfV1, msV1⟩ := cells_at5 qv1
      have HQV1 := Lib.hid qv1
      clear qv1
      have dV0V1 : V0 ≠ V1 := fun e => nq01 (by show u _ = u _; rw [pv0, pv1, e])
      clear nq01
      (try simp only [World.size_alloc, World.size_setCell] at lv0)
      have dV0w50 : V0 ≠ w.heap.size := by omega
      have dV0w51 : V0 ≠ w.heap.size + 1 := by omega
      (try have lbV0 : w.heap.size ≤ V0 := by omega)
      clear lv0
      (try simp only [World.size_alloc, World.size_setCell] at lv1)
      have dV1w50 : V1 ≠ w.heap.size := by omega
      have dV1w51 : V1 ≠ w.heap.size + 1 := by omega
      (try have lbV1 : w.heap.size ≤ V1 := by omega)
      clear lv1
      simp only [List.drop_succ_cons, List.drop_zero, List.take_succ_cons, List.take_zero, fillL, Act.put, List.setIfInBounds_toArray, List.set_cons_zero, List.set_cons_succ, e0, e1, e2, e3, e4, e5, e6, e7, e8, e9, e12, e13, pv0, pv1]
      clear e0 e1 e2 e3 e4 e5 e6 e7 e8 e9 e12 e13 pv0 pv1 hE
      have HBWw5 := Lib.hid hb
      have hw5 := below_step (w := w) (by first | assumption | go_grown) hb
      have hzw5 := hb.size
      (try simp only [World.size_alloc, World.size_setCell] at hzw5)
      have hzw50 : w.heap.size < w5.heap.size := by omega
      have hzw51 : w.heap.size + 1 < w5.heap.size := by omega
      have HHw5 := Lib.hid hb.block
      obtain ⟨hcw5, hfw5⟩ := bcell hb
      clear hb hzw5
      go_wp2
      go_returns
      rw [HE.out]
      exact ⟨rfl, hw5⟩
  | false =>
    cases by' with
    | true =>
      have hx2 := of_decide_eq_false HX.out.1.symm
      have hy2 := of_decide_eq_true HY.out.1.symm
      have HE : Hid (CC = 1) := by
        show _ = _
        rw [← HCC.out]
        unfold cmpI
        rw [if_neg (by omega), if_pos (by omega)]
      clear hx2 hy2
      go_enter Try.func37, Try.ntmps37
      go_wp2_with fail
      refine wp_region_seq 14 [⟨10, 12, #[.bool false, .int .u64 0, .int .u64 0, .int .u64 0, .int .u64 0], 33⟩, ⟨11, 13, #[.bool false, .int .u64 0, .int .u64 0, .int .u64 0, .int .u64 0], 33⟩] [] (by kernel_rfl) (by kernel_rfl) (by kernel_rfl) (by kernel_rfl) (by kernel_rfl) ?_ ?_ ?_
      · intro r hr; cases hr
      · intro r hr; cases hr
      simp only [List.take_succ_cons, List.take_zero, fillL, Act.put, List.setIfInBounds_toArray, List.set_cons_zero, List.set_cons_succ]
      apply seq_is (by kernel_rfl)
      · intro u wx hb hd
        replace hb := hb.nil
        have hz := hb.size
        (try simp only [World.size_alloc, World.size_setCell] at hz)
        have hz0 : w.heap.size < wx.heap.size := by omega
        have hz1 : w.heap.size + 1 < wx.heap.size := by omega
        obtain ⟨hc, hf⟩ := bcell hb
        clear hb hz
        simp [depsE, Region.binds, updE, kindOf, Prp.is, Prp.any] at hd
        go_simp
        first | exact ⟨Below.refl _ _, rfl⟩ | rfl
      apply seq_is (by kernel_rfl)
      · intro u wx hb hd
        replace hb := hb.nil
        have hz := hb.size
        (try simp only [World.size_alloc, World.size_setCell] at hz)
        have hz0 : w.heap.size < wx.heap.size := by omega
        have hz1 : w.heap.size + 1 < wx.heap.size := by omega
        obtain ⟨hc, hf⟩ := bcell hb
        clear hb hz
        simp [depsE, Region.binds, updE, kindOf, Prp.is, Prp.any] at hd
        go_simp
        first | exact ⟨Below.refl _ _, rfl⟩ | rfl
      apply seq_is (by kernel_rfl)
      · intro u wx hb hd
        replace hb := hb.nil
        have hz := hb.size
        (try simp only [World.size_alloc, World.size_setCell] at hz)
        have hz0 : w.heap.size < wx.heap.size := by omega
        have hz1 : w.heap.size + 1 < wx.heap.size := by omega
        obtain ⟨hc, hf⟩ := bcell hb
        clear hb hz
        simp [depsE, Region.binds, updE, kindOf, Prp.is, Prp.any] at hd
        go_simp
        first | exact ⟨Below.refl _ _, rfl⟩ | rfl
      apply seq_is (by kernel_rfl)
      · intro u wx hb hd
        replace hb := hb.nil
        have hz := hb.size
        (try simp only [World.size_alloc, World.size_setCell] at hz)
        have hz0 : w.heap.size < wx.heap.size := by omega
        have hz1 : w.heap.size + 1 < wx.heap.size := by omega
        obtain ⟨hc, hf⟩ := bcell hb
        clear hb hz
        simp [depsE, Region.binds, updE, kindOf, Prp.is, Prp.any] at hd
        go_simp
        first | rfl | (go_at_call 58; refine (split_w x false X wx HX.out).mono ?_; rintro e w1 ⟨rfl, hb1⟩; first | exact ⟨rfl, hb1⟩ | exact ⟨_, rfl, hb1, rfl⟩)
      apply seq_is (by kernel_rfl)
      · intro u wx hb hd
        replace hb := hb.nil
        have hz := hb.size
        (try simp only [World.size_alloc, World.size_setCell] at hz)
        have hz0 : w.heap.size < wx.heap.size := by omega
        have hz1 : w.heap.size + 1 < wx.heap.size := by omega
        obtain ⟨hc, hf⟩ := bcell hb
        clear hb hz
        simp [depsE, Region.binds, updE, kindOf, Prp.is, Prp.any] at hd
        go_simp
        first | rfl | (go_at_call 57; refine (join_split_any x false X wx HX.out).mono ?_; rintro e w1 ⟨rfl, hb1⟩; first | exact ⟨rfl, hb1⟩ | exact ⟨_, rfl, hb1, rfl⟩)
      apply seq_is (by kernel_rfl)
      · intro u wx hb hd
        replace hb := hb.nil
        have hz := hb.size
        (try simp only [World.size_alloc, World.size_setCell] at hz)
        have hz0 : w.heap.size < wx.heap.size := by omega
        have hz1 : w.heap.size + 1 < wx.heap.size := by omega
        obtain ⟨hc, hf⟩ := bcell hb
        clear hb hz
        simp [depsE, Region.binds, updE, kindOf, Prp.is, Prp.any] at hd
        go_simp
        first | exact ⟨Below.refl _ _, rfl⟩ | rfl
      apply seq_is (by kernel_rfl)
      · intro u wx hb hd
        replace hb := hb.nil
        have hz := hb.size
        (try simp only [World.size_alloc, World.size_setCell] at hz)
        have hz0 : w.heap.size < wx.heap.size := by omega
        have hz1 : w.heap.size + 1 < wx.heap.size := by omega
        obtain ⟨hc, hf⟩ := bcell hb
        clear hb hz
        simp [depsE, Region.binds, updE, kindOf, Prp.is, Prp.any] at hd
        go_simp
        first | exact ⟨Below.refl _ _, rfl⟩ | rfl
      apply seq_is (by kernel_rfl)
      · intro u wx hb hd
        replace hb := hb.nil
        have hz := hb.size
        (try simp only [World.size_alloc, World.size_setCell] at hz)
        have hz0 : w.heap.size < wx.heap.size := by omega
        have hz1 : w.heap.size + 1 < wx.heap.size := by omega
        obtain ⟨hc, hf⟩ := bcell hb
        clear hb hz
        simp [depsE, Region.binds, updE, kindOf, Prp.is, Prp.any] at hd
        go_simp
        first | exact ⟨Below.refl _ _, rfl⟩ | rfl
      apply seq_is (by kernel_rfl)
      · intro u wx hb hd
        replace hb := hb.nil
        have hz := hb.size
        (try simp only [World.size_alloc, World.size_setCell] at hz)
        have hz0 : w.heap.size < wx.heap.size := by omega
        have hz1 : w.heap.size + 1 < wx.heap.size := by omega
        obtain ⟨hc, hf⟩ := bcell hb
        clear hb hz
        simp [depsE, Region.binds, updE, kindOf, Prp.is, Prp.any] at hd
        go_simp
        first | rfl | (go_at_call 58; refine (split_w y true Y wx HY.out).mono ?_; rintro e w1 ⟨rfl, hb1⟩; first | exact ⟨rfl, hb1⟩ | exact ⟨_, rfl, hb1, rfl⟩)
      apply seq_is (by kernel_rfl)
      · intro u wx hb hd
        replace hb := hb.nil
        have hz := hb.size
        (try simp only [World.size_alloc, World.size_setCell] at hz)
        have hz0 : w.heap.size < wx.heap.size := by omega
        have hz1 : w.heap.size + 1 < wx.heap.size := by omega
        obtain ⟨hc, hf⟩ := bcell hb
        clear hb hz
        simp [depsE, Region.binds, updE, kindOf, Prp.is, Prp.any] at hd
        go_simp
        first | rfl | (go_at_call 57; refine (join_split_any y true Y wx HY.out).mono ?_; rintro e w1 ⟨rfl, hb1⟩; first | exact ⟨rfl, hb1⟩ | exact ⟨_, rfl, hb1, rfl⟩)
      refine seq_var ⟨10, 12, #[.bool false, .int .u64 0, .int .u64 0, .int .u64 0, .int .u64 0], 33⟩ (by simp) rfl ?_ ?_
      · intro u wx hb
        refine ⟨by simp [Region.wanted], ?_⟩
        go_simp
        first | done | rfl | exact ⟨rfl, rfl⟩
      refine seq_var ⟨11, 13, #[.bool false, .int .u64 0, .int .u64 0, .int .u64 0, .int .u64 0], 33⟩ (by simp) rfl ?_ ?_
      · intro u wx hb
        refine ⟨by simp [Region.wanted], ?_⟩
        go_simp
        first | done | rfl | exact ⟨rfl, rfl⟩
      apply seq_sto_agg ⟨10, 12, #[.bool false, .int .u64 0, .int .u64 0, .int .u64 0, .int .u64 0], 33⟩ (by simp) rfl (by kernel_rfl) rfl (by kernel_rfl)
      · intro u wx hb hd
        replace hb := hb.nil
        have hz := hb.size
        (try simp only [World.size_alloc, World.size_setCell] at hz)
        have hz0 : w.heap.size < wx.heap.size := by omega
        have hz1 : w.heap.size + 1 < wx.heap.size := by omega
        obtain ⟨hc, hf⟩ := bcell hb
        clear hb hz
        simp [depsE, Region.binds, updE, kindOf, Prp.is, Prp.any] at hd
        refine ⟨by simp [Region.wanted], fun b' hub hlb hcells => ?_⟩
        have hub' : u 10 = .pointer (some ⟨b', 0, none⟩) := hub
        have hcells' : wx.heap[b']? = some (.cells #[.bool false, .int .u64 0, .int .u64 0, .int .u64 0, .int .u64 0] 33) := hcells
        have hat := cells_at5 hcells'
        have HCL := Lib.hid hcells'
        clear hcells hcells' hub
        go_simp
        exact Stored.c5 HCL.out _ _ _ _ _
      apply seq_sto_agg ⟨11, 13, #[.bool false, .int .u64 0, .int .u64 0, .int .u64 0, .int .u64 0], 33⟩ (by simp) rfl (by kernel_rfl) rfl (by kernel_rfl)
      · intro u wx hb hd
        replace hb := hb.nil
        have hz := hb.size
        (try simp only [World.size_alloc, World.size_setCell] at hz)
        have hz0 : w.heap.size < wx.heap.size := by omega
        have hz1 : w.heap.size + 1 < wx.heap.size := by omega
        obtain ⟨hc, hf⟩ := bcell hb
        clear hb hz
        simp [depsE, Region.binds, updE, kindOf, Prp.is, Prp.any] at hd
        refine ⟨by simp [Region.wanted], fun b' hub hlb hcells => ?_⟩
        have hub' : u 11 = .pointer (some ⟨b', 0, none⟩) := hub
        have hcells' : wx.heap[b']? = some (.cells #[.bool false, .int .u64 0, .int .u64 0, .int .u64 0, .int .u64 0] 33) := hcells
        have hat := cells_at5 hcells'
        have HCL := Lib.hid hcells'
        clear hcells hcells' hub
        go_simp
        exact Stored.c5 HCL.out _ _ _ _ _
      intro u w5 hb hE hV hP
      replace hb := hb.nil
      clear hP
      have e0 : u 0 = _ := endE_get hE 0 (by decide) (by simp [kindOf])
      have e1 : u 1 = _ := endE_get hE 1 (by decide) (by simp [kindOf])
      have e2 : u 2 = _ := endE_get hE 2 (by decide) (by simp [kindOf])
      have e3 : u 3 = _ := endE_get hE 3 (by decide) (by simp [kindOf])
      have e4 : u 4 = _ := endE_get hE 4 (by decide) (by simp [kindOf])
      have e5 : u 5 = _ := endE_get hE 5 (by decide) (by simp [kindOf])
      have e6 : u 6 = _ := endE_get hE 6 (by decide) (by simp [kindOf])
      have e7 : u 7 = _ := endE_get hE 7 (by decide) (by simp [kindOf])
      have e8 : u 8 = _ := endE_get hE 8 (by decide) (by simp [kindOf])
      have e9 : u 9 = _ := endE_get hE 9 (by decide) (by simp [kindOf])
      have e12 : u 12 = _ := endE_get hE 12 (by decide) (by simp [kindOf])
      have e13 : u 13 = _ := endE_get hE 13 (by decide) (by simp [kindOf])
      obtain ⟨⟨V0, pv0, lv0, qv0⟩, ⟨nq01, -⟩, ⟨⟨V1, pv1, lv1, qv1⟩, -, -⟩⟩ := hV
      replace qv0 : w5.heap[V0]? = some (.cells (u 12).cells 33) := qv0
      rw [e12] at qv0
      replace pv0 : u 10 = .pointer (some ⟨V0, 0, none⟩) := pv0
      obtain ⟨mV00, mV01, mV02, mV03, mV04, mfV0, msV0⟩ := cells_at5 qv0
      have HQV0 := Lib.hid qv0
      clear qv0
      replace qv1 : w5.heap[V1]? = some (.cells (u 13).cells 33) := qv1
      rw [e13] at qv1
      replace pv1 : u 11 = .pointer (some ⟨V1, 0, none⟩) := pv1
      obtain ⟨mV10, mV11, mV12, mV13, mV14, mfV1, msV1⟩ := cells_at5 qv1
      have HQV1 := Lib.hid qv1
      clear qv1
      have dV0V1 : V0 ≠ V1 := fun e => nq01 (by show u _ = u _; rw [pv0, pv1, e])
      clear nq01
      (try simp only [World.size_alloc, World.size_setCell] at lv0)
      have dV0w50 : V0 ≠ w.heap.size := by omega
      have dV0w51 : V0 ≠ w.heap.size + 1 := by omega
      (try have lbV0 : w.heap.size ≤ V0 := by omega)
      clear lv0
      (try simp only [World.size_alloc, World.size_setCell] at lv1)
      have dV1w50 : V1 ≠ w.heap.size := by omega
      have dV1w51 : V1 ≠ w.heap.size + 1 := by omega
      (try have lbV1 : w.heap.size ≤ V1 := by omega)
      clear lv1
      simp only [List.drop_succ_cons, List.drop_zero, List.take_succ_cons, List.take_zero, fillL, Act.put, List.setIfInBounds_toArray, List.set_cons_zero, List.set_cons_succ, e0, e1, e2, e3, e4, e5, e6, e7, e8, e9, e12, e13, pv0, pv1]
      clear e0 e1 e2 e3 e4 e5 e6 e7 e8 e9 e12 e13 pv0 pv1 hE
      have HBWw5 := Lib.hid hb
      have hw5 := below_step (w := w) (by first | assumption | go_grown) hb
      have hzw5 := hb.size
      (try simp only [World.size_alloc, World.size_setCell] at hzw5)
      have hzw50 : w.heap.size < w5.heap.size := by omega
      have hzw51 : w.heap.size + 1 < w5.heap.size := by omega
      have HHw5 := Lib.hid hb.block
      obtain ⟨hcw5, hfw5⟩ := bcell hb
      clear hb hzw5
      go_wp2
      go_returns
      rw [HE.out]
      exact ⟨rfl, hw5⟩
    | false =>
      have hx2 := of_decide_eq_false HX.out.1.symm
      have hy2 := of_decide_eq_false HY.out.1.symm
      have HE : Hid (cmpI (x.natAbs : Int) (y.natAbs : Int) = CC) := by
        show _ = _
        rw [← HCC.out]
        unfold cmpI
        split <;> split <;> (try split) <;> (try split) <;> omega
      clear hx2 hy2
      go_enter Try.func37, Try.ntmps37
      go_wp2_with fail
      refine wp_region_seq 14 [⟨10, 12, #[.bool false, .int .u64 0, .int .u64 0, .int .u64 0, .int .u64 0], 33⟩, ⟨11, 13, #[.bool false, .int .u64 0, .int .u64 0, .int .u64 0, .int .u64 0], 33⟩] [] (by kernel_rfl) (by kernel_rfl) (by kernel_rfl) (by kernel_rfl) (by kernel_rfl) ?_ ?_ ?_
      · intro r hr; cases hr
      · intro r hr; cases hr
      simp only [List.take_succ_cons, List.take_zero, fillL, Act.put, List.setIfInBounds_toArray, List.set_cons_zero, List.set_cons_succ]
      apply seq_is (by kernel_rfl)
      · intro u wx hb hd
        replace hb := hb.nil
        have hz := hb.size
        (try simp only [World.size_alloc, World.size_setCell] at hz)
        have hz0 : w.heap.size < wx.heap.size := by omega
        have hz1 : w.heap.size + 1 < wx.heap.size := by omega
        obtain ⟨hc, hf⟩ := bcell hb
        clear hb hz
        simp [depsE, Region.binds, updE, kindOf, Prp.is, Prp.any] at hd
        go_simp
        first | exact ⟨Below.refl _ _, rfl⟩ | rfl
      apply seq_is (by kernel_rfl)
      · intro u wx hb hd
        replace hb := hb.nil
        have hz := hb.size
        (try simp only [World.size_alloc, World.size_setCell] at hz)
        have hz0 : w.heap.size < wx.heap.size := by omega
        have hz1 : w.heap.size + 1 < wx.heap.size := by omega
        obtain ⟨hc, hf⟩ := bcell hb
        clear hb hz
        simp [depsE, Region.binds, updE, kindOf, Prp.is, Prp.any] at hd
        go_simp
        first | exact ⟨Below.refl _ _, rfl⟩ | rfl
      apply seq_is (by kernel_rfl)
      · intro u wx hb hd
        replace hb := hb.nil
        have hz := hb.size
        (try simp only [World.size_alloc, World.size_setCell] at hz)
        have hz0 : w.heap.size < wx.heap.size := by omega
        have hz1 : w.heap.size + 1 < wx.heap.size := by omega
        obtain ⟨hc, hf⟩ := bcell hb
        clear hb hz
        simp [depsE, Region.binds, updE, kindOf, Prp.is, Prp.any] at hd
        go_simp
        first | exact ⟨Below.refl _ _, rfl⟩ | rfl
      apply seq_is (by kernel_rfl)
      · intro u wx hb hd
        replace hb := hb.nil
        have hz := hb.size
        (try simp only [World.size_alloc, World.size_setCell] at hz)
        have hz0 : w.heap.size < wx.heap.size := by omega
        have hz1 : w.heap.size + 1 < wx.heap.size := by omega
        obtain ⟨hc, hf⟩ := bcell hb
        clear hb hz
        simp [depsE, Region.binds, updE, kindOf, Prp.is, Prp.any] at hd
        go_simp
        first | rfl | (go_at_call 58; refine (split_w x false X wx HX.out).mono ?_; rintro e w1 ⟨rfl, hb1⟩; first | exact ⟨rfl, hb1⟩ | exact ⟨_, rfl, hb1, rfl⟩)
      apply seq_is (by kernel_rfl)
      · intro u wx hb hd
        replace hb := hb.nil
        have hz := hb.size
        (try simp only [World.size_alloc, World.size_setCell] at hz)
        have hz0 : w.heap.size < wx.heap.size := by omega
        have hz1 : w.heap.size + 1 < wx.heap.size := by omega
        obtain ⟨hc, hf⟩ := bcell hb
        clear hb hz
        simp [depsE, Region.binds, updE, kindOf, Prp.is, Prp.any] at hd
        go_simp
        first | rfl | (go_at_call 57; refine (join_split_any x false X wx HX.out).mono ?_; rintro e w1 ⟨rfl, hb1⟩; first | exact ⟨rfl, hb1⟩ | exact ⟨_, rfl, hb1, rfl⟩)
      apply seq_is (by kernel_rfl)
      · intro u wx hb hd
        replace hb := hb.nil
        have hz := hb.size
        (try simp only [World.size_alloc, World.size_setCell] at hz)
        have hz0 : w.heap.size < wx.heap.size := by omega
        have hz1 : w.heap.size + 1 < wx.heap.size := by omega
        obtain ⟨hc, hf⟩ := bcell hb
        clear hb hz
        simp [depsE, Region.binds, updE, kindOf, Prp.is, Prp.any] at hd
        go_simp
        first | exact ⟨Below.refl _ _, rfl⟩ | rfl
      apply seq_is (by kernel_rfl)
      · intro u wx hb hd
        replace hb := hb.nil
        have hz := hb.size
        (try simp only [World.size_alloc, World.size_setCell] at hz)
        have hz0 : w.heap.size < wx.heap.size := by omega
        have hz1 : w.heap.size + 1 < wx.heap.size := by omega
        obtain ⟨hc, hf⟩ := bcell hb
        clear hb hz
        simp [depsE, Region.binds, updE, kindOf, Prp.is, Prp.any] at hd
        go_simp
        first | exact ⟨Below.refl _ _, rfl⟩ | rfl
      apply seq_is (by kernel_rfl)
      · intro u wx hb hd
        replace hb := hb.nil
        have hz := hb.size
        (try simp only [World.size_alloc, World.size_setCell] at hz)
        have hz0 : w.heap.size < wx.heap.size := by omega
        have hz1 : w.heap.size + 1 < wx.heap.size := by omega
        obtain ⟨hc, hf⟩ := bcell hb
        clear hb hz
        simp [depsE, Region.binds, updE, kindOf, Prp.is, Prp.any] at hd
        go_simp
        first | exact ⟨Below.refl _ _, rfl⟩ | rfl
      apply seq_is (by kernel_rfl)
      · intro u wx hb hd
        replace hb := hb.nil
        have hz := hb.size
        (try simp only [World.size_alloc, World.size_setCell] at hz)
        have hz0 : w.heap.size < wx.heap.size := by omega
        have hz1 : w.heap.size + 1 < wx.heap.size := by omega
        obtain ⟨hc, hf⟩ := bcell hb
        clear hb hz
        simp [depsE, Region.binds, updE, kindOf, Prp.is, Prp.any] at hd
        go_simp
        first | rfl | (go_at_call 58; refine (split_w y false Y wx HY.out).mono ?_; rintro e w1 ⟨rfl, hb1⟩; first | exact ⟨rfl, hb1⟩ | exact ⟨_, rfl, hb1, rfl⟩)
      apply seq_is (by kernel_rfl)
      · intro u wx hb hd
        replace hb := hb.nil
        have hz := hb.size
        (try simp only [World.size_alloc, World.size_setCell] at hz)
        have hz0 : w.heap.size < wx.heap.size := by omega
        have hz1 : w.heap.size + 1 < wx.heap.size := by omega
        obtain ⟨hc, hf⟩ := bcell hb
        clear hb hz
        simp [depsE, Region.binds, updE, kindOf, Prp.is, Prp.any] at hd
        go_simp
        first | rfl | (go_at_call 57; refine (join_split_any y false Y wx HY.out).mono ?_; rintro e w1 ⟨rfl, hb1⟩; first | exact ⟨rfl, hb1⟩ | exact ⟨_, rfl, hb1, rfl⟩)
      refine seq_var ⟨10, 12, #[.bool false, .int .u64 0, .int .u64 0, .int .u64 0, .int .u64 0], 33⟩ (by simp) rfl ?_ ?_
      · intro u wx hb
        refine ⟨by simp [Region.wanted], ?_⟩
        go_simp
        first | done | rfl | exact ⟨rfl, rfl⟩
      refine seq_var ⟨11, 13, #[.bool false, .int .u64 0, .int .u64 0, .int .u64 0, .int .u64 0], 33⟩ (by simp) rfl ?_ ?_
      · intro u wx hb
        refine ⟨by simp [Region.wanted], ?_⟩
        go_simp
        first | done | rfl | exact ⟨rfl, rfl⟩
      apply seq_sto_agg ⟨10, 12, #[.bool false, .int .u64 0, .int .u64 0, .int .u64 0, .int .u64 0], 33⟩ (by simp) rfl (by kernel_rfl) rfl (by kernel_rfl)
      · intro u wx hb hd
        replace hb := hb.nil
        have hz := hb.size
        (try simp only [World.size_alloc, World.size_setCell] at hz)
        have hz0 : w.heap.size < wx.heap.size := by omega
        have hz1 : w.heap.size + 1 < wx.heap.size := by omega
        obtain ⟨hc, hf⟩ := bcell hb
        clear hb hz
        simp [depsE, Region.binds, updE, kindOf, Prp.is, Prp.any] at hd
        refine ⟨by simp [Region.wanted], fun b' hub hlb hcells => ?_⟩
        have hub' : u 10 = .pointer (some ⟨b', 0, none⟩) := hub
        have hcells' : wx.heap[b']? = some (.cells #[.bool false, .int .u64 0, .int .u64 0, .int .u64 0, .int .u64 0] 33) := hcells
        have hat := cells_at5 hcells'
        have HCL := Lib.hid hcells'
        clear hcells hcells' hub
        go_simp
        exact Stored.c5 HCL.out _ _ _ _ _
      apply seq_sto_agg ⟨11, 13, #[.bool false, .int .u64 0, .int .u64 0, .int .u64 0, .int .u64 0], 33⟩ (by simp) rfl (by kernel_rfl) rfl (by kernel_rfl)
      · intro u wx hb hd
        replace hb := hb.nil
        have hz := hb.size
        (try simp only [World.size_alloc, World.size_setCell] at hz)
        have hz0 : w.heap.size < wx.heap.size := by omega
        have hz1 : w.heap.size + 1 < wx.heap.size := by omega
        obtain ⟨hc, hf⟩ := bcell hb
        clear hb hz
        simp [depsE, Region.binds, updE, kindOf, Prp.is, Prp.any] at hd
        refine ⟨by simp [Region.wanted], fun b' hub hlb hcells => ?_⟩
        have hub' : u 11 = .pointer (some ⟨b', 0, none⟩) := hub
        have hcells' : wx.heap[b']? = some (.cells #[.bool false, .int .u64 0, .int .u64 0, .int .u64 0, .int .u64 0] 33) := hcells
        have hat := cells_at5 hcells'
        have HCL := Lib.hid hcells'
        clear hcells hcells' hub
        go_simp
        exact Stored.c5 HCL.out _ _ _ _ _
      intro u w5 hb hE hV hP
      replace hb := hb.nil
      clear hP
      have e0 : u 0 = _ := endE_get hE 0 (by decide) (by simp [kindOf])
      have e1 : u 1 = _ := endE_get hE 1 (by decide) (by simp [kindOf])
      have e2 : u 2 = _ := endE_get hE 2 (by decide) (by simp [kindOf])
      have e3 : u 3 = _ := endE_get hE 3 (by decide) (by simp [kindOf])
      have e4 : u 4 = _ := endE_get hE 4 (by decide) (by simp [kindOf])
      have e5 : u 5 = _ := endE_get hE 5 (by decide) (by simp [kindOf])
      have e6 : u 6 = _ := endE_get hE 6 (by decide) (by simp [kindOf])
      have e7 : u 7 = _ := endE_get hE 7 (by decide) (by simp [kindOf])
      have e8 : u 8 = _ := endE_get hE 8 (by decide) (by simp [kindOf])
      have e9 : u 9 = _ := endE_get hE 9 (by decide) (by simp [kindOf])
      have e12 : u 12 = _ := endE_get hE 12 (by decide) (by simp [kindOf])
      have e13 : u 13 = _ := endE_get hE 13 (by decide) (by simp [kindOf])
      obtain ⟨⟨V0, pv0, lv0, qv0⟩, ⟨nq01, -⟩, ⟨⟨V1, pv1, lv1, qv1⟩, -, -⟩⟩ := hV
      replace qv0 : w5.heap[V0]? = some (.cells (u 12).cells 33) := qv0
      rw [e12] at qv0
      replace pv0 : u 10 = .pointer (some ⟨V0, 0, none⟩) := pv0
      obtain ⟨mV00, mV01, mV02, mV03, mV04, mfV0, msV0⟩ := cells_at5 qv0
      have HQV0 := Lib.hid qv0
      clear qv0
      replace qv1 : w5.heap[V1]? = some (.cells (u 13).cells 33) := qv1
      rw [e13] at qv1
      replace pv1 : u 11 = .pointer (some ⟨V1, 0, none⟩) := pv1
      obtain ⟨mV10, mV11, mV12, mV13, mV14, mfV1, msV1⟩ := cells_at5 qv1
      have HQV1 := Lib.hid qv1
      clear qv1
      have dV0V1 : V0 ≠ V1 := fun e => nq01 (by show u _ = u _; rw [pv0, pv1, e])
      clear nq01
      (try simp only [World.size_alloc, World.size_setCell] at lv0)
      have dV0w50 : V0 ≠ w.heap.size := by omega
      have dV0w51 : V0 ≠ w.heap.size + 1 := by omega
      (try have lbV0 : w.heap.size ≤ V0 := by omega)
      clear lv0
      (try simp only [World.size_alloc, World.size_setCell] at lv1)
      have dV1w50 : V1 ≠ w.heap.size := by omega
      have dV1w51 : V1 ≠ w.heap.size + 1 := by omega
      (try have lbV1 : w.heap.size ≤ V1 := by omega)
      clear lv1
      simp only [List.drop_succ_cons, List.drop_zero, List.take_succ_cons, List.take_zero, fillL, Act.put, List.setIfInBounds_toArray, List.set_cons_zero, List.set_cons_succ, e0, e1, e2, e3, e4, e5, e6, e7, e8, e9, e12, e13, pv0, pv1]
      clear e0 e1 e2 e3 e4 e5 e6 e7 e8 e9 e12 e13 pv0 pv1 hE
      have HBWw5 := Lib.hid hb
      have hw5 := below_step (w := w) (by first | assumption | go_grown) hb
      have hzw5 := hb.size
      (try simp only [World.size_alloc, World.size_setCell] at hzw5)
      have hzw50 : w.heap.size < w5.heap.size := by omega
      have hzw51 : w.heap.size + 1 < w5.heap.size := by omega
      have HHw5 := Lib.hid hb.block
      obtain ⟨hcw5, hfw5⟩ := bcell hb
      clear hb hzw5
      go_wp2_with fail
      refine wp_region_relw 6 (by kernel_rfl) (by kernel_rfl) (by kernel_rfl) ?_
      simp only [List.take_succ_cons, List.take_zero, fillL, Act.put, List.setIfInBounds_toArray, List.set_cons_zero, List.set_cons_succ]
      apply rel_is
      · intro u wx hb hd
        have hz := hb.size
        (try simp only [World.size_alloc, World.size_setCell] at hz)
        have hz0 : V0 < wx.heap.size := by omega
        have hz1 : V1 < wx.heap.size := by omega
        obtain ⟨hc, hf⟩ := bcell hb
        have HBX := Lib.hid hb
        clear hb hz
        simp [depsS, Region.binds, updS, Stay.is, Stay.any] at hd
        go_simp
        first | exact ⟨Below.refl _ _, rfl⟩ | rfl
      apply rel_is
      · intro u wx hb hd
        have hz := hb.size
        (try simp only [World.size_alloc, World.size_setCell] at hz)
        have hz0 : V0 < wx.heap.size := by omega
        have hz1 : V1 < wx.heap.size := by omega
        obtain ⟨hc, hf⟩ := bcell hb
        have HBX := Lib.hid hb
        clear hb hz
        simp [depsS, Region.binds, updS, Stay.is, Stay.any] at hd
        go_simp
        first | rfl | (go_at_call 58; refine (split_w x false X wx HX.out).mono ?_; rintro e w1 ⟨rfl, hb1⟩; (try rw [HE.out]); first | exact ⟨rfl, hb1⟩ | exact ⟨_, rfl, hb1, rfl⟩)
      apply rel_is
      · intro u wx hb hd
        have hz := hb.size
        (try simp only [World.size_alloc, World.size_setCell] at hz)
        have hz0 : V0 < wx.heap.size := by omega
        have hz1 : V1 < wx.heap.size := by omega
        obtain ⟨hc, hf⟩ := bcell hb
        have HBX := Lib.hid hb
        clear hb hz
        simp [depsS, Region.binds, updS, Stay.is, Stay.any] at hd
        go_simp
        first | exact ⟨Below.refl _ _, rfl⟩ | rfl
      apply rel_is
      · intro u wx hb hd
        have hz := hb.size
        (try simp only [World.size_alloc, World.size_setCell] at hz)
        have hz0 : V0 < wx.heap.size := by omega
        have hz1 : V1 < wx.heap.size := by omega
        obtain ⟨hc, hf⟩ := bcell hb
        have HBX := Lib.hid hb
        clear hb hz
        simp [depsS, Region.binds, updS, Stay.is, Stay.any] at hd
        go_simp
        first | rfl | (go_at_call 58; refine (split_w y false Y wx HY.out).mono ?_; rintro e w1 ⟨rfl, hb1⟩; (try rw [HE.out]); first | exact ⟨rfl, hb1⟩ | exact ⟨_, rfl, hb1, rfl⟩)
      apply rel_is
      · intro u wx hb hd
        have hz := hb.size
        (try simp only [World.size_alloc, World.size_setCell] at hz)
        have hz0 : V0 < wx.heap.size := by omega
        have hz1 : V1 < wx.heap.size := by omega
        obtain ⟨hc, hf⟩ := bcell hb
        have HBX := Lib.hid hb
        clear hb hz
        simp [depsS, Region.binds, updS, Stay.is, Stay.any] at hd
        go_simp
        first | rfl | (go_at_call 59; refine (rcompare_w x y false false X Y wx HX.out HY.out).mono ?_; rintro e w1 ⟨rfl, hb1⟩; (try rw [HE.out]); first | exact ⟨rfl, hb1⟩ | exact ⟨_, rfl, hb1, rfl⟩)
      apply rel_is
      · intro u wx hb hd
        have hz := hb.size
        (try simp only [World.size_alloc, World.size_setCell] at hz)
        have hz0 : V0 < wx.heap.size := by omega
        have hz1 : V1 < wx.heap.size := by omega
        obtain ⟨hc, hf⟩ := bcell hb
        have HBX := Lib.hid hb
        clear hb hz
        simp [depsS, Region.binds, updS, Stay.is, Stay.any] at hd
        go_simp
        first | exact ⟨Below.refl _ _, rfl⟩ | rfl
      intro u w6 hb hE
      have e0 : u 0 = _ := endS_get hE 0 (by decide)
      have e1 : u 1 = _ := endS_get hE 1 (by decide)
      have e2 : u 2 = _ := endS_get hE 2 (by decide)
      have e3 : u 3 = _ := endS_get hE 3 (by decide)
      have e4 : u 4 = _ := endS_get hE 4 (by decide)
      have e5 : u 5 = _ := endS_get hE 5 (by decide)
      simp only [List.drop_succ_cons, List.drop_zero, List.take_succ_cons, List.take_zero, fillL, Act.put, List.setIfInBounds_toArray, List.set_cons_zero, List.set_cons_succ, e0, e1, e2, e3, e4, e5]
      clear e0 e1 e2 e3 e4 e5 hE
      have HBw6 := Lib.hid (below_step (w := w5) (by first | assumption | go_grown) hb)
      have HBXw6 := Lib.hid hb
      have hzw6 := hb.size
      (try simp only [World.size_alloc, World.size_setCell] at hzw6)
      have hzw60 : V0 < w6.heap.size := by omega
      have hzw61 : V1 < w6.heap.size := by omega
      obtain ⟨hcw6, hfw6⟩ := bcell hb
      clear hb hzw6
      have hB6 : Below w.heap.size w w6 := below_step hw5 HBXw6.out
      go_wp2
      go_returns
      exact ⟨rfl, hB6⟩

set_option maxHeartbeats 4000000 in
theorem rAdd_any (x y : Int) (bx by' : Bool) (X Y : Nat → Int) (w : World) (hx : isW x bx X) (hy : isW y by' Y) (hs : ((x + y).natAbs : Int) < 115792089237316195423570985008687907853269984665640564039457584007913129639936) :
    Calls Try.prog 60 #[.agg #[.bool bx, .int .u64 (X 0), .int .u64 (X 1), .int .u64 (X 2), .int .u64 (X 3)], .agg #[.bool by', .int .u64 (Y 0), .int .u64 (Y 1), .int .u64 (Y 2), .int .u64 (Y 3)]] w fun e w' => ∃ Z : Nat → Int, e = .returned (.tuple #[.agg #[.bool (decide (x + y < 0)), .int .u64 (Z 0), .int .u64 (Z 1), .int .u64 (Z 2), .int .u64 (Z 3)], .int .i64 0]) ∧ isW (x + y) (decide (x + y < 0)) Z ∧ Below w.heap.size w w' := by
  have HX := Lib.hid hx
  have HY := Lib.hid hy
  obtain ⟨SG, hSG⟩ : ∃ b, decide (x + y < 0) = b := ⟨_, rfl⟩
  have HSG0 := Lib.hid hSG
  rw [hSG]
  clear hSG hx hy
  cases bx with
  | true =>
    cases by' with
    | true =>
      have hx2 := of_decide_eq_true HX.out.1.symm
      have hy2 := of_decide_eq_true HY.out.1.symm
      have hbx := isW_lt HX.out
      have hby := isW_lt HY.out
      go_enter Try.func60, Try.ntmps60
      go_wp2_with fail
      refine wp_region_seq 8 [⟨4, 6, #[.int .u64 0, .int .u64 0, .int .u64 0, .int .u64 0, .int .u64 0, .int .u64 0, .int .u64 0, .int .u64 0], 84⟩, ⟨5, 7, #[.int .u64 0, .int .u64 0, .int .u64 0, .int .u64 0, .int .u64 0, .int .u64 0, .int .u64 0, .int .u64 0], 84⟩] [] (by kernel_rfl) (by kernel_rfl) (by kernel_rfl) (by kernel_rfl) (by kernel_rfl) ?_ ?_ ?_
      · intro r hr; cases hr
      · intro r hr; cases hr
      simp only [List.take_succ_cons, List.take_zero, fillL, Act.put, List.setIfInBounds_toArray, List.set_cons_zero, List.set_cons_succ]
      apply seq_is (by kernel_rfl)
      · intro u wx hb hd
        replace hb := hb.nil
        have hz := hb.size
        (try simp only [World.size_alloc, World.size_setCell] at hz)
        have hz0 : w.heap.size < wx.heap.size := by omega
        have hz1 : w.heap.size + 1 < wx.heap.size := by omega
        have hz2 : w.heap.size + 1 + 1 < wx.heap.size := by omega
        obtain ⟨hc, hf⟩ := bcell hb
        clear hb hz
        simp [depsE, Region.binds, updE, kindOf, Prp.is, Prp.any] at hd
        go_simp
        first | exact ⟨Below.refl _ _, rfl⟩ | rfl
      apply seq_is (by kernel_rfl)
      · intro u wx hb hd
        replace hb := hb.nil
        have hz := hb.size
        (try simp only [World.size_alloc, World.size_setCell] at hz)
        have hz0 : w.heap.size < wx.heap.size := by omega
        have hz1 : w.heap.size + 1 < wx.heap.size := by omega
        have hz2 : w.heap.size + 1 + 1 < wx.heap.size := by omega
        obtain ⟨hc, hf⟩ := bcell hb
        clear hb hz
        simp [depsE, Region.binds, updE, kindOf, Prp.is, Prp.any] at hd
        go_simp
        first | rfl | (go_at_call 58; refine (split_w x true X wx HX.out).mono ?_; rintro e w1 ⟨rfl, hb1⟩; first | exact ⟨rfl, hb1⟩ | exact ⟨_, rfl, hb1, rfl⟩)
      apply seq_is (by kernel_rfl)
      · intro u wx hb hd
        replace hb := hb.nil
        have hz := hb.size
        (try simp only [World.size_alloc, World.size_setCell] at hz)
        have hz0 : w.heap.size < wx.heap.size := by omega
        have hz1 : w.heap.size + 1 < wx.heap.size := by omega
        have hz2 : w.heap.size + 1 + 1 < wx.heap.size := by omega
        obtain ⟨hc, hf⟩ := bcell hb
        clear hb hz
        simp [depsE, Region.binds, updE, kindOf, Prp.is, Prp.any] at hd
        go_simp
        first | exact ⟨Below.refl _ _, rfl⟩ | rfl
      apply seq_is (by kernel_rfl)
      · intro u wx hb hd
        replace hb := hb.nil
        have hz := hb.size
        (try simp only [World.size_alloc, World.size_setCell] at hz)
        have hz0 : w.heap.size < wx.heap.size := by omega
        have hz1 : w.heap.size + 1 < wx.heap.size := by omega
        have hz2 : w.heap.size + 1 + 1 < wx.heap.size := by omega
        obtain ⟨hc, hf⟩ := bcell hb
        clear hb hz
        simp [depsE, Region.binds, updE, kindOf, Prp.is, Prp.any] at hd
        go_simp
        first | rfl | (go_at_call 58; refine (split_w y true Y wx HY.out).mono ?_; rintro e w1 ⟨rfl, hb1⟩; first | exact ⟨rfl, hb1⟩ | exact ⟨_, rfl, hb1, rfl⟩)
      refine seq_var ⟨4, 6, #[.int .u64 0, .int .u64 0, .int .u64 0, .int .u64 0, .int .u64 0, .int .u64 0, .int .u64 0, .int .u64 0], 84⟩ (by simp) rfl ?_ ?_
      · intro u wx hb
        refine ⟨by simp [Region.wanted], ?_⟩
        go_simp
        first | done | rfl | exact ⟨rfl, rfl⟩
      refine seq_var ⟨5, 7, #[.int .u64 0, .int .u64 0, .int .u64 0, .int .u64 0, .int .u64 0, .int .u64 0, .int .u64 0, .int .u64 0], 84⟩ (by simp) rfl ?_ ?_
      · intro u wx hb
        refine ⟨by simp [Region.wanted], ?_⟩
        go_simp
        first | done | rfl | exact ⟨rfl, rfl⟩
      apply seq_sto_agg ⟨4, 6, #[.int .u64 0, .int .u64 0, .int .u64 0, .int .u64 0, .int .u64 0, .int .u64 0, .int .u64 0, .int .u64 0], 84⟩ (by simp) rfl (by kernel_rfl) rfl (by kernel_rfl)
      · intro u wx hb hd
        replace hb := hb.nil
        have hz := hb.size
        (try simp only [World.size_alloc, World.size_setCell] at hz)
        have hz0 : w.heap.size < wx.heap.size := by omega
        have hz1 : w.heap.size + 1 < wx.heap.size := by omega
        have hz2 : w.heap.size + 1 + 1 < wx.heap.size := by omega
        obtain ⟨hc, hf⟩ := bcell hb
        clear hb hz
        simp [depsE, Region.binds, updE, kindOf, Prp.is, Prp.any] at hd
        refine ⟨by simp [Region.wanted], fun b' hub hlb hcells => ?_⟩
        have hub' : u 4 = .pointer (some ⟨b', 0, none⟩) := hub
        have hcells' : wx.heap[b']? = some (.cells #[.int .u64 0, .int .u64 0, .int .u64 0, .int .u64 0, .int .u64 0, .int .u64 0, .int .u64 0, .int .u64 0] 84) := hcells
        have hat := cells_at8 hcells'
        have HCL := Lib.hid hcells'
        clear hcells hcells' hub
        go_simp
        exact Stored.c8 HCL.out _ _ _ _ _ _ _ _
      apply seq_sto_agg ⟨5, 7, #[.int .u64 0, .int .u64 0, .int .u64 0, .int .u64 0, .int .u64 0, .int .u64 0, .int .u64 0, .int .u64 0], 84⟩ (by simp) rfl (by kernel_rfl) rfl (by kernel_rfl)
      · intro u wx hb hd
        replace hb := hb.nil
        have hz := hb.size
        (try simp only [World.size_alloc, World.size_setCell] at hz)
        have hz0 : w.heap.size < wx.heap.size := by omega
        have hz1 : w.heap.size + 1 < wx.heap.size := by omega
        have hz2 : w.heap.size + 1 + 1 < wx.heap.size := by omega
        obtain ⟨hc, hf⟩ := bcell hb
        clear hb hz
        simp [depsE, Region.binds, updE, kindOf, Prp.is, Prp.any] at hd
        refine ⟨by simp [Region.wanted], fun b' hub hlb hcells => ?_⟩
        have hub' : u 5 = .pointer (some ⟨b', 0, none⟩) := hub
        have hcells' : wx.heap[b']? = some (.cells #[.int .u64 0, .int .u64 0, .int .u64 0, .int .u64 0, .int .u64 0, .int .u64 0, .int .u64 0, .int .u64 0] 84) := hcells
        have hat := cells_at8 hcells'
        have HCL := Lib.hid hcells'
        clear hcells hcells' hub
        go_simp
        exact Stored.c8 HCL.out _ _ _ _ _ _ _ _
      intro u w5 hb hE hV hP
      replace hb := hb.nil
      clear hP
      have e0 : u 0 = _ := endE_get hE 0 (by decide) (by simp [kindOf])
      have e1 : u 1 = _ := endE_get hE 1 (by decide) (by simp [kindOf])
      have e2 : u 2 = _ := endE_get hE 2 (by decide) (by simp [kindOf])
      have e3 : u 3 = _ := endE_get hE 3 (by decide) (by simp [kindOf])
      have e6 : u 6 = _ := endE_get hE 6 (by decide) (by simp [kindOf])
      have e7 : u 7 = _ := endE_get hE 7 (by decide) (by simp [kindOf])
      obtain ⟨⟨V0, pv0, lv0, qv0⟩, ⟨nq01, -⟩, ⟨⟨V1, pv1, lv1, qv1⟩, -, -⟩⟩ := hV
      replace qv0 : w5.heap[V0]? = some (.cells (u 6).cells 84) := qv0
      rw [e6] at qv0
      replace pv0 : u 4 = .pointer (some ⟨V0, 0, none⟩) := pv0
      obtain ⟨mV00, mV01, mV02, mV03, mV04, mV05, mV06, mV07, mfV0, msV0⟩ := cells_at8 qv0
      have HQV0 := Lib.hid qv0
      clear qv0
      replace qv1 : w5.heap[V1]? = some (.cells (u 7).cells 84) := qv1
      rw [e7] at qv1
      replace pv1 : u 5 = .pointer (some ⟨V1, 0, none⟩) := pv1
      obtain ⟨mV10, mV11, mV12, mV13, mV14, mV15, mV16, mV17, mfV1, msV1⟩ := cells_at8 qv1
      have HQV1 := Lib.hid qv1
      clear qv1
      have dV0V1 : V0 ≠ V1 := fun e => nq01 (by show u _ = u _; rw [pv0, pv1, e])
      clear nq01
      (try simp only [World.size_alloc, World.size_setCell] at lv0)
      have dV0w50 : V0 ≠ w.heap.size := by omega
      have dV0w51 : V0 ≠ w.heap.size + 1 := by omega
      have dV0w52 : V0 ≠ w.heap.size + 1 + 1 := by omega
      (try have lbV0 : w.heap.size ≤ V0 := by omega)
      clear lv0
      (try simp only [World.size_alloc, World.size_setCell] at lv1)
      have dV1w50 : V1 ≠ w.heap.size := by omega
      have dV1w51 : V1 ≠ w.heap.size + 1 := by omega
      have dV1w52 : V1 ≠ w.heap.size + 1 + 1 := by omega
      (try have lbV1 : w.heap.size ≤ V1 := by omega)
      clear lv1
      simp only [List.drop_succ_cons, List.drop_zero, List.take_succ_cons, List.take_zero, fillL, Act.put, List.setIfInBounds_toArray, List.set_cons_zero, List.set_cons_succ, e0, e1, e2, e3, e6, e7, pv0, pv1]
      clear e0 e1 e2 e3 e6 e7 pv0 pv1 hE
      have HBWw5 := Lib.hid hb
      have hw5 := below_step (w := w) (by first | assumption | go_grown) hb
      have hzw5 := hb.size
      (try simp only [World.size_alloc, World.size_setCell] at hzw5)
      have hzw50 : w.heap.size < w5.heap.size := by omega
      have hzw51 : w.heap.size + 1 < w5.heap.size := by omega
      have hzw52 : w.heap.size + 1 + 1 < w5.heap.size := by omega
      have HHw5 := Lib.hid hb.block
      obtain ⟨hcw5, hfw5⟩ := bcell hb
      clear hb hzw5
      go_wp2_with fail
      (go_at_call 75; refine (rplus_any (splitF X) (splitF Y) _ (split_is HX.out).1 (split_is HY.out).1).mono ?_; rintro e_ w6 ⟨Z, k, rfl, hd, hk, he, hb⟩)
      have HDZ := Lib.hid hd
      have HEZ : Hid (k = 0 ∧ valN 4294967296 Z 8 = (x.natAbs : Int) + y.natAbs) := by
        have hz := valN_bd (by decide) hd
        rw [(split_is HX.out).2, (split_is HY.out).2, pw8] at he
        rw [pw8] at hz
        have hk0 : k = 0 := by omega
        subst hk0
        exact ⟨rfl, by omega⟩
      obtain rfl : k = 0 := HEZ.out.1
      clear hd hk he
      have hz6 := hb.size
      (try simp only [World.size_alloc, World.size_setCell] at hz6)
      have a0 : w6.cell? ⟨w.heap.size, 0, none⟩ = some (.bool true) := (hb.cell (p := ⟨_, _, none⟩) (by simp <;> omega)).trans ((HBWw5.out.cell (p := ⟨_, _, none⟩) (by simp <;> omega)).trans (by simp [go_sem]))
      have r0 : w6.cell? ⟨w.heap.size + 1 + 1, 0, none⟩ = some (.bool false) := (hb.cell (p := ⟨_, _, none⟩) (by simp <;> omega)).trans ((HBWw5.out.cell (p := ⟨_, _, none⟩) (by simp <;> omega)).trans (by simp [go_sem]))
      have fr0 : w6.frozen? ⟨w.heap.size + 1 + 1, 0, none⟩ = false := (hb.frozen (p := ⟨_, _, none⟩) (by simp <;> omega)).trans ((HBWw5.out.frozen (p := ⟨_, _, none⟩) (by simp <;> omega)).trans (by simp [go_sem]))
      have r1 : w6.cell? ⟨w.heap.size + 1 + 1, 1, none⟩ = some (.int .u64 0) := (hb.cell (p := ⟨_, _, none⟩) (by simp <;> omega)).trans ((HBWw5.out.cell (p := ⟨_, _, none⟩) (by simp <;> omega)).trans (by simp [go_sem]))
      have fr1 : w6.frozen? ⟨w.heap.size + 1 + 1, 1, none⟩ = false := (hb.frozen (p := ⟨_, _, none⟩) (by simp <;> omega)).trans ((HBWw5.out.frozen (p := ⟨_, _, none⟩) (by simp <;> omega)).trans (by simp [go_sem]))
      have r2 : w6.cell? ⟨w.heap.size + 1 + 1, 2, none⟩ = some (.int .u64 0) := (hb.cell (p := ⟨_, _, none⟩) (by simp <;> omega)).trans ((HBWw5.out.cell (p := ⟨_, _, none⟩) (by simp <;> omega)).trans (by simp [go_sem]))
      have fr2 : w6.frozen? ⟨w.heap.size + 1 + 1, 2, none⟩ = false := (hb.frozen (p := ⟨_, _, none⟩) (by simp <;> omega)).trans ((HBWw5.out.frozen (p := ⟨_, _, none⟩) (by simp <;> omega)).trans (by simp [go_sem]))
      have r3 : w6.cell? ⟨w.heap.size + 1 + 1, 3, none⟩ = some (.int .u64 0) := (hb.cell (p := ⟨_, _, none⟩) (by simp <;> omega)).trans ((HBWw5.out.cell (p := ⟨_, _, none⟩) (by simp <;> omega)).trans (by simp [go_sem]))
      have fr3 : w6.frozen? ⟨w.heap.size + 1 + 1, 3, none⟩ = false := (hb.frozen (p := ⟨_, _, none⟩) (by simp <;> omega)).trans ((HBWw5.out.frozen (p := ⟨_, _, none⟩) (by simp <;> omega)).trans (by simp [go_sem]))
      have r4 : w6.cell? ⟨w.heap.size + 1 + 1, 4, none⟩ = some (.int .u64 0) := (hb.cell (p := ⟨_, _, none⟩) (by simp <;> omega)).trans ((HBWw5.out.cell (p := ⟨_, _, none⟩) (by simp <;> omega)).trans (by simp [go_sem]))
      have fr4 : w6.frozen? ⟨w.heap.size + 1 + 1, 4, none⟩ = false := (hb.frozen (p := ⟨_, _, none⟩) (by simp <;> omega)).trans ((HBWw5.out.frozen (p := ⟨_, _, none⟩) (by simp <;> omega)).trans (by simp [go_sem]))
      have hB6 : Below w.heap.size w w6 := below_step hw5 hb
      clear hb hcw5 hfw5
      have HSG : Hid (sgB true (valN 4294967296 Z 8) = SG) := by
        show _ = _
        rw [HEZ.out.2, sgB_T, ← HSG0.out]
        congr 1
        exact propext ⟨fun h => by omega, fun h => by omega⟩
      have hz60 : w.heap.size < w6.heap.size := by omega
      have hz62 : w.heap.size + 1 + 1 < w6.heap.size := by omega
      go_wp2_with fail
      (go_at_call 57; refine (join_any true Z _ HDZ.out).mono ?_; rintro e_ w7 ⟨rfl, hb⟩)
      rw [HSG.out]
      have hP7 : Below w6.heap.size w6 w7 := below_step (w := w6) (by go_grown) hb
      have rr0 : w7.cell? ⟨w.heap.size + 1 + 1, 0, none⟩ = some (.bool false) := (hP7.cell (p := ⟨_, _, none⟩) hz62).trans r0
      have frr0 : w7.frozen? ⟨w.heap.size + 1 + 1, 0, none⟩ = false := (hP7.frozen (p := ⟨_, _, none⟩) hz62).trans fr0
      have rr1 : w7.cell? ⟨w.heap.size + 1 + 1, 1, none⟩ = some (.int .u64 0) := (hP7.cell (p := ⟨_, _, none⟩) hz62).trans r1
      have frr1 : w7.frozen? ⟨w.heap.size + 1 + 1, 1, none⟩ = false := (hP7.frozen (p := ⟨_, _, none⟩) hz62).trans fr1
      have rr2 : w7.cell? ⟨w.heap.size + 1 + 1, 2, none⟩ = some (.int .u64 0) := (hP7.cell (p := ⟨_, _, none⟩) hz62).trans r2
      have frr2 : w7.frozen? ⟨w.heap.size + 1 + 1, 2, none⟩ = false := (hP7.frozen (p := ⟨_, _, none⟩) hz62).trans fr2
      have rr3 : w7.cell? ⟨w.heap.size + 1 + 1, 3, none⟩ = some (.int .u64 0) := (hP7.cell (p := ⟨_, _, none⟩) hz62).trans r3
      have frr3 : w7.frozen? ⟨w.heap.size + 1 + 1, 3, none⟩ = false := (hP7.frozen (p := ⟨_, _, none⟩) hz62).trans fr3
      have rr4 : w7.cell? ⟨w.heap.size + 1 + 1, 4, none⟩ = some (.int .u64 0) := (hP7.cell (p := ⟨_, _, none⟩) hz62).trans r4
      have frr4 : w7.frozen? ⟨w.heap.size + 1 + 1, 4, none⟩ = false := (hP7.frozen (p := ⟨_, _, none⟩) hz62).trans fr4
      have hz72 : w.heap.size + 1 + 1 < w7.heap.size := by have := hP7.size; omega
      have hB7 : Below w.heap.size w w7 := below_step hB6 hP7
      clear hb hP7
      go_wp2
      all_goals (refine bodyPost_ret (v := .tuple #[.agg #[.bool SG, .int .u64 (joinF Z 0), .int .u64 (joinF Z 1), .int .u64 (joinF Z 2), .int .u64 (joinF Z 3)], .int .i64 0]) (by simp (maxDischargeDepth := 9) [results, Try.results60, go_sem, *]) rfl ?_)
      refine ⟨joinF Z, rfl, ?_, by go_grown⟩
      have h := join_isT HDZ.out rfl
      rw [HSG.out, HEZ.out.2] at h
      rwa [show -((x.natAbs : Int) + y.natAbs) = x + y by omega] at h
    | false =>
      have hx2 := of_decide_eq_true HX.out.1.symm
      have hy2 := of_decide_eq_false HY.out.1.symm
      have hbx := isW_lt HX.out
      have hby := isW_lt HY.out
      go_enter Try.func60, Try.ntmps60
      go_wp2_with fail
      refine wp_region_seq 8 [⟨4, 6, #[.int .u64 0, .int .u64 0, .int .u64 0, .int .u64 0, .int .u64 0, .int .u64 0, .int .u64 0, .int .u64 0], 84⟩, ⟨5, 7, #[.int .u64 0, .int .u64 0, .int .u64 0, .int .u64 0, .int .u64 0, .int .u64 0, .int .u64 0, .int .u64 0], 84⟩] [] (by kernel_rfl) (by kernel_rfl) (by kernel_rfl) (by kernel_rfl) (by kernel_rfl) ?_ ?_ ?_
      · intro r hr; cases hr
      · intro r hr; cases hr
      simp only [List.take_succ_cons, List.take_zero, fillL, Act.put, List.setIfInBounds_toArray, List.set_cons_zero, List.set_cons_succ]
      apply seq_is (by kernel_rfl)
      · intro u wx hb hd
        replace hb := hb.nil
        have hz := hb.size
        (try simp only [World.size_alloc, World.size_setCell] at hz)
        have hz0 : w.heap.size < wx.heap.size := by omega
        have hz1 : w.heap.size + 1 < wx.heap.size := by omega
        have hz2 : w.heap.size + 1 + 1 < wx.heap.size := by omega
        obtain ⟨hc, hf⟩ := bcell hb
        clear hb hz
        simp [depsE, Region.binds, updE, kindOf, Prp.is, Prp.any] at hd
        go_simp
        first | exact ⟨Below.refl _ _, rfl⟩ | rfl
      apply seq_is (by kernel_rfl)
      · intro u wx hb hd
        replace hb := hb.nil
        have hz := hb.size
        (try simp only [World.size_alloc, World.size_setCell] at hz)
        have hz0 : w.heap.size < wx.heap.size := by omega
        have hz1 : w.heap.size + 1 < wx.heap.size := by omega
        have hz2 : w.heap.size + 1 + 1 < wx.heap.size := by omega
        obtain ⟨hc, hf⟩ := bcell hb
        clear hb hz
        simp [depsE, Region.binds, updE, kindOf, Prp.is, Prp.any] at hd
        go_simp
        first | rfl | (go_at_call 58; refine (split_w x true X wx HX.out).mono ?_; rintro e w1 ⟨rfl, hb1⟩; first | exact ⟨rfl, hb1⟩ | exact ⟨_, rfl, hb1, rfl⟩)
      apply seq_is (by kernel_rfl)
      · intro u wx hb hd
        replace hb := hb.nil
        have hz := hb.size
        (try simp only [World.size_alloc, World.size_setCell] at hz)
        have hz0 : w.heap.size < wx.heap.size := by omega
        have hz1 : w.heap.size + 1 < wx.heap.size := by omega
        have hz2 : w.heap.size + 1 + 1 < wx.heap.size := by omega
        obtain ⟨hc, hf⟩ := bcell hb
        clear hb hz
        simp [depsE, Region.binds, updE, kindOf, Prp.is, Prp.any] at hd
        go_simp
        first | exact ⟨Below.refl _ _, rfl⟩ | rfl
      apply seq_is (by kernel_rfl)
      · intro u wx hb hd
        replace hb := hb.nil
        have hz := hb.size
        (try simp only [World.size_alloc, World.size_setCell] at hz)
        have hz0 : w.heap.size < wx.heap.size := by omega
        have hz1 : w.heap.size + 1 < wx.heap.size := by omega
        have hz2 : w.heap.size + 1 + 1 < wx.heap.size := by omega
        obtain ⟨hc, hf⟩ := bcell hb
        clear hb hz
        simp [depsE, Region.binds, updE, kindOf, Prp.is, Prp.any] at hd
        go_simp
        first | rfl | (go_at_call 58; refine (split_w y false Y wx HY.out).mono ?_; rintro e w1 ⟨rfl, hb1⟩; first | exact ⟨rfl, hb1⟩ | exact ⟨_, rfl, hb1, rfl⟩)
      refine seq_var ⟨4, 6, #[.int .u64 0, .int .u64 0, .int .u64 0, .int .u64 0, .int .u64 0, .int .u64 0, .int .u64 0, .int .u64 0], 84⟩ (by simp) rfl ?_ ?_
      · intro u wx hb
        refine ⟨by simp [Region.wanted], ?_⟩
        go_simp
        first | done | rfl | exact ⟨rfl, rfl⟩
      refine seq_var ⟨5, 7, #[.int .u64 0, .int .u64 0, .int .u64 0, .int .u64 0, .int .u64 0, .int .u64 0, .int .u64 0, .int .u64 0], 84⟩ (by simp) rfl ?_ ?_
      · intro u wx hb
        refine ⟨by simp [Region.wanted], ?_⟩
        go_simp
        first | done | rfl | exact ⟨rfl, rfl⟩
      apply seq_sto_agg ⟨4, 6, #[.int .u64 0, .int .u64 0, .int .u64 0, .int .u64 0, .int .u64 0, .int .u64 0, .int .u64 0, .int .u64 0], 84⟩ (by simp) rfl (by kernel_rfl) rfl (by kernel_rfl)
      · intro u wx hb hd
        replace hb := hb.nil
        have hz := hb.size
        (try simp only [World.size_alloc, World.size_setCell] at hz)
        have hz0 : w.heap.size < wx.heap.size := by omega
        have hz1 : w.heap.size + 1 < wx.heap.size := by omega
        have hz2 : w.heap.size + 1 + 1 < wx.heap.size := by omega
        obtain ⟨hc, hf⟩ := bcell hb
        clear hb hz
        simp [depsE, Region.binds, updE, kindOf, Prp.is, Prp.any] at hd
        refine ⟨by simp [Region.wanted], fun b' hub hlb hcells => ?_⟩
        have hub' : u 4 = .pointer (some ⟨b', 0, none⟩) := hub
        have hcells' : wx.heap[b']? = some (.cells #[.int .u64 0, .int .u64 0, .int .u64 0, .int .u64 0, .int .u64 0, .int .u64 0, .int .u64 0, .int .u64 0] 84) := hcells
        have hat := cells_at8 hcells'
        have HCL := Lib.hid hcells'
        clear hcells hcells' hub
        go_simp
        exact Stored.c8 HCL.out _ _ _ _ _ _ _ _
      apply seq_sto_agg ⟨5, 7, #[.int .u64 0, .int .u64 0, .int .u64 0, .int .u64 0, .int .u64 0, .int .u64 0, .int .u64 0, .int .u64 0], 84⟩ (by simp) rfl (by kernel_rfl) rfl (by kernel_rfl)
      · intro u wx hb hd
        replace hb := hb.nil
        have hz := hb.size
        (try simp only [World.size_alloc, World.size_setCell] at hz)
        have hz0 : w.heap.size < wx.heap.size := by omega
        have hz1 : w.heap.size + 1 < wx.heap.size := by omega
        have hz2 : w.heap.size + 1 + 1 < wx.heap.size := by omega
        obtain ⟨hc, hf⟩ := bcell hb
        clear hb hz
        simp [depsE, Region.binds, updE, kindOf, Prp.is, Prp.any] at hd
        refine ⟨by simp [Region.wanted], fun b' hub hlb hcells => ?_⟩
        have hub' : u 5 = .pointer (some ⟨b', 0, none⟩) := hub
        have hcells' : wx.heap[b']? = some (.cells #[.int .u64 0, .int .u64 0, .int .u64 0, .int .u64 0, .int .u64 0, .int .u64 0, .int .u64 0, .int .u64 0] 84) := hcells
        have hat := cells_at8 hcells'
        have HCL := Lib.hid hcells'
        clear hcells hcells' hub
        go_simp
        exact Stored.c8 HCL.out _ _ _ _ _ _ _ _
      intro u w5 hb hE hV hP
      replace hb := hb.nil
      clear hP
      have e0 : u 0 = _ := endE_get hE 0 (by decide) (by simp [kindOf])
      have e1 : u 1 = _ := endE_get hE 1 (by decide) (by simp [kindOf])
      have e2 : u 2 = _ := endE_get hE 2 (by decide) (by simp [kindOf])
      have e3 : u 3 = _ := endE_get hE 3 (by decide) (by simp [kindOf])
      have e6 : u 6 = _ := endE_get hE 6 (by decide) (by simp [kindOf])
      have e7 : u 7 = _ := endE_get hE 7 (by decide) (by simp [kindOf])
      obtain ⟨⟨V0, pv0, lv0, qv0⟩, ⟨nq01, -⟩, ⟨⟨V1, pv1, lv1, qv1⟩, -, -⟩⟩ := hV
      replace qv0 : w5.heap[V0]? = some (.cells (u 6).cells 84) := qv0
      rw [e6] at qv0
      replace pv0 : u 4 = .pointer (some ⟨V0, 0, none⟩) := pv0
      obtain ⟨mV00, mV01, mV02, mV03, mV04, mV05, mV06, mV07, mfV0, msV0⟩ := cells_at8 qv0
      have HQV0 := Lib.hid qv0
      clear qv0
      replace qv1 : w5.heap[V1]? = some (.cells (u 7).cells 84) := qv1
      rw [e7] at qv1
      replace pv1 : u 5 = .pointer (some ⟨V1, 0, none⟩) := pv1
      obtain ⟨mV10, mV11, mV12, mV13, mV14, mV15, mV16, mV17, mfV1, msV1⟩ := cells_at8 qv1
      have HQV1 := Lib.hid qv1
      clear qv1
      have dV0V1 : V0 ≠ V1 := fun e => nq01 (by show u _ = u _; rw [pv0, pv1, e])
      clear nq01
      (try simp only [World.size_alloc, World.size_setCell] at lv0)
      have dV0w50 : V0 ≠ w.heap.size := by omega
      have dV0w51 : V0 ≠ w.heap.size + 1 := by omega
      have dV0w52 : V0 ≠ w.heap.size + 1 + 1 := by omega
      (try have lbV0 : w.heap.size ≤ V0 := by omega)
      clear lv0
      (try simp only [World.size_alloc, World.size_setCell] at lv1)
      have dV1w50 : V1 ≠ w.heap.size := by omega
      have dV1w51 : V1 ≠ w.heap.size + 1 := by omega
      have dV1w52 : V1 ≠ w.heap.size + 1 + 1 := by omega
      (try have lbV1 : w.heap.size ≤ V1 := by omega)
      clear lv1
      simp only [List.drop_succ_cons, List.drop_zero, List.take_succ_cons, List.take_zero, fillL, Act.put, List.setIfInBounds_toArray, List.set_cons_zero, List.set_cons_succ, e0, e1, e2, e3, e6, e7, pv0, pv1]
      clear e0 e1 e2 e3 e6 e7 pv0 pv1 hE
      have HBWw5 := Lib.hid hb
      have hw5 := below_step (w := w) (by first | assumption | go_grown) hb
      have hzw5 := hb.size
      (try simp only [World.size_alloc, World.size_setCell] at hzw5)
      have hzw50 : w.heap.size < w5.heap.size := by omega
      have hzw51 : w.heap.size + 1 < w5.heap.size := by omega
      have hzw52 : w.heap.size + 1 + 1 < w5.heap.size := by omega
      have HHw5 := Lib.hid hb.block
      obtain ⟨hcw5, hfw5⟩ := bcell hb
      clear hb hzw5
      obtain ⟨CV, hCV⟩ : ∃ c, cmpI (x.natAbs : Int) (y.natAbs : Int) = c := ⟨_, rfl⟩
      have HCV := Lib.hid hCV
      go_wp2_with fail
      (go_at_call 59; refine (rcompare_w x y true false X Y _ HX.out HY.out).mono ?_; rintro e_ w6 ⟨rfl, hb⟩)
      rw [hCV]
      clear hCV
      have hz6 := hb.size
      (try simp only [World.size_alloc, World.size_setCell] at hz6)
      have a0 : w6.cell? ⟨w.heap.size, 0, none⟩ = some (.bool true) := (hb.cell (p := ⟨_, _, none⟩) (by simp <;> omega)).trans ((HBWw5.out.cell (p := ⟨_, _, none⟩) (by simp <;> omega)).trans (by simp [go_sem]))
      have b0 : w6.cell? ⟨w.heap.size + 1, 0, none⟩ = some (.bool false) := (hb.cell (p := ⟨_, _, none⟩) (by simp <;> omega)).trans ((HBWw5.out.cell (p := ⟨_, _, none⟩) (by simp <;> omega)).trans (by simp [go_sem]))
      have r0 : w6.cell? ⟨w.heap.size + 1 + 1, 0, none⟩ = some (.bool false) := (hb.cell (p := ⟨_, _, none⟩) (by simp <;> omega)).trans ((HBWw5.out.cell (p := ⟨_, _, none⟩) (by simp <;> omega)).trans (by simp [go_sem]))
      have fr0 : w6.frozen? ⟨w.heap.size + 1 + 1, 0, none⟩ = false := (hb.frozen (p := ⟨_, _, none⟩) (by simp <;> omega)).trans ((HBWw5.out.frozen (p := ⟨_, _, none⟩) (by simp <;> omega)).trans (by simp [go_sem]))
      have r1 : w6.cell? ⟨w.heap.size + 1 + 1, 1, none⟩ = some (.int .u64 0) := (hb.cell (p := ⟨_, _, none⟩) (by simp <;> omega)).trans ((HBWw5.out.cell (p := ⟨_, _, none⟩) (by simp <;> omega)).trans (by simp [go_sem]))
      have fr1 : w6.frozen? ⟨w.heap.size + 1 + 1, 1, none⟩ = false := (hb.frozen (p := ⟨_, _, none⟩) (by simp <;> omega)).trans ((HBWw5.out.frozen (p := ⟨_, _, none⟩) (by simp <;> omega)).trans (by simp [go_sem]))
      have r2 : w6.cell? ⟨w.heap.size + 1 + 1, 2, none⟩ = some (.int .u64 0) := (hb.cell (p := ⟨_, _, none⟩) (by simp <;> omega)).trans ((HBWw5.out.cell (p := ⟨_, _, none⟩) (by simp <;> omega)).trans (by simp [go_sem]))
      have fr2 : w6.frozen? ⟨w.heap.size + 1 + 1, 2, none⟩ = false := (hb.frozen (p := ⟨_, _, none⟩) (by simp <;> omega)).trans ((HBWw5.out.frozen (p := ⟨_, _, none⟩) (by simp <;> omega)).trans (by simp [go_sem]))
      have r3 : w6.cell? ⟨w.heap.size + 1 + 1, 3, none⟩ = some (.int .u64 0) := (hb.cell (p := ⟨_, _, none⟩) (by simp <;> omega)).trans ((HBWw5.out.cell (p := ⟨_, _, none⟩) (by simp <;> omega)).trans (by simp [go_sem]))
      have fr3 : w6.frozen? ⟨w.heap.size + 1 + 1, 3, none⟩ = false := (hb.frozen (p := ⟨_, _, none⟩) (by simp <;> omega)).trans ((HBWw5.out.frozen (p := ⟨_, _, none⟩) (by simp <;> omega)).trans (by simp [go_sem]))
      have r4 : w6.cell? ⟨w.heap.size + 1 + 1, 4, none⟩ = some (.int .u64 0) := (hb.cell (p := ⟨_, _, none⟩) (by simp <;> omega)).trans ((HBWw5.out.cell (p := ⟨_, _, none⟩) (by simp <;> omega)).trans (by simp [go_sem]))
      have fr4 : w6.frozen? ⟨w.heap.size + 1 + 1, 4, none⟩ = false := (hb.frozen (p := ⟨_, _, none⟩) (by simp <;> omega)).trans ((HBWw5.out.frozen (p := ⟨_, _, none⟩) (by simp <;> omega)).trans (by simp [go_sem]))
      have p0 : w6.cell? ⟨V0, 0, none⟩ = some (.int .u64 (splitF X 0)) := (hb.cell (p := ⟨_, _, none⟩) msV0).trans mV00
      have p1 : w6.cell? ⟨V0, 1, none⟩ = some (.int .u64 (splitF X 1)) := (hb.cell (p := ⟨_, _, none⟩) msV0).trans mV01
      have p2 : w6.cell? ⟨V0, 2, none⟩ = some (.int .u64 (splitF X 2)) := (hb.cell (p := ⟨_, _, none⟩) msV0).trans mV02
      have p3 : w6.cell? ⟨V0, 3, none⟩ = some (.int .u64 (splitF X 3)) := (hb.cell (p := ⟨_, _, none⟩) msV0).trans mV03
      have p4 : w6.cell? ⟨V0, 4, none⟩ = some (.int .u64 (splitF X 4)) := (hb.cell (p := ⟨_, _, none⟩) msV0).trans mV04
      have p5 : w6.cell? ⟨V0, 5, none⟩ = some (.int .u64 (splitF X 5)) := (hb.cell (p := ⟨_, _, none⟩) msV0).trans mV05
      have p6 : w6.cell? ⟨V0, 6, none⟩ = some (.int .u64 (splitF X 6)) := (hb.cell (p := ⟨_, _, none⟩) msV0).trans mV06
      have p7 : w6.cell? ⟨V0, 7, none⟩ = some (.int .u64 (splitF X 7)) := (hb.cell (p := ⟨_, _, none⟩) msV0).trans mV07
      have q0 : w6.cell? ⟨V1, 0, none⟩ = some (.int .u64 (splitF Y 0)) := (hb.cell (p := ⟨_, _, none⟩) msV1).trans mV10
      have q1 : w6.cell? ⟨V1, 1, none⟩ = some (.int .u64 (splitF Y 1)) := (hb.cell (p := ⟨_, _, none⟩) msV1).trans mV11
      have q2 : w6.cell? ⟨V1, 2, none⟩ = some (.int .u64 (splitF Y 2)) := (hb.cell (p := ⟨_, _, none⟩) msV1).trans mV12
      have q3 : w6.cell? ⟨V1, 3, none⟩ = some (.int .u64 (splitF Y 3)) := (hb.cell (p := ⟨_, _, none⟩) msV1).trans mV13
      have q4 : w6.cell? ⟨V1, 4, none⟩ = some (.int .u64 (splitF Y 4)) := (hb.cell (p := ⟨_, _, none⟩) msV1).trans mV14
      have q5 : w6.cell? ⟨V1, 5, none⟩ = some (.int .u64 (splitF Y 5)) := (hb.cell (p := ⟨_, _, none⟩) msV1).trans mV15
      have q6 : w6.cell? ⟨V1, 6, none⟩ = some (.int .u64 (splitF Y 6)) := (hb.cell (p := ⟨_, _, none⟩) msV1).trans mV16
      have q7 : w6.cell? ⟨V1, 7, none⟩ = some (.int .u64 (splitF Y 7)) := (hb.cell (p := ⟨_, _, none⟩) msV1).trans mV17
      have hv06 : V0 < w6.heap.size := by omega
      have hv16 : V1 < w6.heap.size := by omega
      have hz60 : w.heap.size < w6.heap.size := by omega
      have hz61 : w.heap.size + 1 < w6.heap.size := by omega
      have hz62 : w.heap.size + 1 + 1 < w6.heap.size := by omega
      have hB6 : Below w.heap.size w w6 := below_step hw5 hb
      clear hb hcw5 hfw5
      by_cases hle : (y.natAbs : Int) ≤ x.natAbs
      · have kc : decide (0 ≤ CV) = true := decide_eq_true (by rw [← HCV.out]; unfold cmpI; split <;> (try split) <;> omega)
        have HSG : Hid (sgB true ((x.natAbs : Int) - y.natAbs) = SG) := by
          show _ = _
          rw [sgB_T, ← HSG0.out]
          congr 1
          exact propext ⟨fun h => by omega, fun h => by omega⟩
        have HLE : Hid ((y.natAbs : Int) ≤ x.natAbs) := hle
        have HMB : Hid (0 ≤ ((x.natAbs : Int) - y.natAbs) ∧ ((x.natAbs : Int) - y.natAbs) < 115792089237316195423570985008687907853269984665640564039457584007913129639936) := ⟨by omega, by omega⟩
        have HXY : Hid (-((x.natAbs : Int) - y.natAbs) = x + y) := by show _ = _; omega
        go_wp2_with fail
        refine wp_region_relw 6 (by kernel_rfl) (by kernel_rfl) (by kernel_rfl) ?_
        simp only [List.take_succ_cons, List.take_zero, fillL, Act.put, List.setIfInBounds_toArray, List.set_cons_zero, List.set_cons_succ]
        iterate 4
          apply rel_is
          · intro u wx hb hd
            have hz := hb.size
            (try simp only [World.size_alloc, World.size_setCell] at hz)
            have hz0 : V0 < wx.heap.size := by omega
            have hz1 : V1 < wx.heap.size := by omega
            have hz2 : w.heap.size < wx.heap.size := by omega
            have hz3 : w.heap.size + 1 < wx.heap.size := by omega
            have hz4 : w.heap.size + 1 + 1 < wx.heap.size := by omega
            obtain ⟨hc, hf⟩ := bcell hb
            have HBX := Lib.hid hb
            clear hb hz
            simp [depsS, Region.binds, updS, Stay.is, Stay.any] at hd
            go_simp
            first | exact ⟨Below.refl _ _, rfl⟩ | rfl
        apply rel_is
        · intro u wx hb hd
          have hz := hb.size
          (try simp only [World.size_alloc, World.size_setCell] at hz)
          have hz0 : V0 < wx.heap.size := by omega
          have hz1 : V1 < wx.heap.size := by omega
          have hz2 : w.heap.size < wx.heap.size := by omega
          have hz3 : w.heap.size + 1 < wx.heap.size := by omega
          have hz4 : w.heap.size + 1 + 1 < wx.heap.size := by omega
          obtain ⟨hc, hf⟩ := bcell hb
          have HBX := Lib.hid hb
          clear hb hz
          simp [depsS, Region.binds, updS, Stay.is, Stay.any] at hd
          go_simp
          first | rfl | (go_at_call 76; refine (rminus_w x y true false X Y wx HX.out HY.out HLE.out).mono ?_; rintro e w1 ⟨rfl, hb1⟩; (try rw [HSG.out]); first | exact ⟨rfl, hb1⟩ | exact ⟨_, rfl, hb1, rfl⟩)
        apply rel_is
        · intro u wx hb hd
          have hz := hb.size
          (try simp only [World.size_alloc, World.size_setCell] at hz)
          have hz0 : V0 < wx.heap.size := by omega
          have hz1 : V1 < wx.heap.size := by omega
          have hz2 : w.heap.size < wx.heap.size := by omega
          have hz3 : w.heap.size + 1 < wx.heap.size := by omega
          have hz4 : w.heap.size + 1 + 1 < wx.heap.size := by omega
          obtain ⟨hc, hf⟩ := bcell hb
          have HBX := Lib.hid hb
          clear hb hz
          simp [depsS, Region.binds, updS, Stay.is, Stay.any] at hd
          go_simp
          first | rfl | (go_at_call 57; refine (join_dg true ((x.natAbs : Int) - y.natAbs) wx HMB.out.1 HMB.out.2).mono ?_; rintro e w1 ⟨rfl, hb1⟩; (try rw [HSG.out]); first | exact ⟨rfl, hb1⟩ | exact ⟨_, rfl, hb1, rfl⟩)
        intro u w7 hb hE
        have e0 : u 0 = _ := endS_get hE 0 (by decide)
        have e1 : u 1 = _ := endS_get hE 1 (by decide)
        have e2 : u 2 = _ := endS_get hE 2 (by decide)
        have e3 : u 3 = _ := endS_get hE 3 (by decide)
        have e4 : u 4 = _ := endS_get hE 4 (by decide)
        have e5 : u 5 = _ := endS_get hE 5 (by decide)
        simp only [List.drop_succ_cons, List.drop_zero, List.take_succ_cons, List.take_zero, fillL, Act.put, List.setIfInBounds_toArray, List.set_cons_zero, List.set_cons_succ, e0, e1, e2, e3, e4, e5]
        clear e0 e1 e2 e3 e4 e5 hE
        have HBw7 := Lib.hid (below_step (w := w6) (by first | assumption | go_grown) hb)
        have HBXw7 := Lib.hid hb
        have hzw7 := hb.size
        (try simp only [World.size_alloc, World.size_setCell] at hzw7)
        have hzw70 : V0 < w7.heap.size := by omega
        have hzw71 : V1 < w7.heap.size := by omega
        have hzw72 : w.heap.size < w7.heap.size := by omega
        have hzw73 : w.heap.size + 1 < w7.heap.size := by omega
        have hzw74 : w.heap.size + 1 + 1 < w7.heap.size := by omega
        obtain ⟨hcw7, hfw7⟩ := bcell hb
        clear hb hzw7
        have hB7 : Below w.heap.size w w7 := below_step hB6 HBXw7.out
        go_wp2
        all_goals (refine bodyPost_ret (v := .tuple #[.agg #[.bool SG, .int .u64 ((joinF (dgF 4294967296 ((x.natAbs : Int) - y.natAbs))) 0), .int .u64 ((joinF (dgF 4294967296 ((x.natAbs : Int) - y.natAbs))) 1), .int .u64 ((joinF (dgF 4294967296 ((x.natAbs : Int) - y.natAbs))) 2), .int .u64 ((joinF (dgF 4294967296 ((x.natAbs : Int) - y.natAbs))) 3)], .int .i64 0]) (by simp (maxDischargeDepth := 9) [results, Try.results60, go_sem, *]) rfl ?_)
        refine ⟨joinF (dgF 4294967296 ((x.natAbs : Int) - y.natAbs)), rfl, ?_, by go_grown⟩
        have h := join_isT (dg_is HMB.out.1 HMB.out.2).1 (dg_is HMB.out.1 HMB.out.2).2
        rw [HSG.out] at h
        rw [← HXY.out]
        exact h
      · have kc : decide (0 ≤ CV) = false := decide_eq_false (by rw [← HCV.out]; unfold cmpI; rw [if_pos (by omega)]; decide)
        replace hle : (x.natAbs : Int) ≤ y.natAbs := by omega
        have HSG : Hid (sgB false ((y.natAbs : Int) - x.natAbs) = SG) := by
          show _ = _
          rw [sgB_F, ← HSG0.out]
          congr 1
          exact propext ⟨fun h => by omega, fun h => by omega⟩
        have HLE : Hid ((x.natAbs : Int) ≤ y.natAbs) := hle
        have HMB : Hid (0 ≤ ((y.natAbs : Int) - x.natAbs) ∧ ((y.natAbs : Int) - x.natAbs) < 115792089237316195423570985008687907853269984665640564039457584007913129639936) := ⟨by omega, by omega⟩
        have HXY : Hid (((y.natAbs : Int) - x.natAbs) = x + y) := by show _ = _; omega
        go_wp2_with fail
        refine wp_region_relw 6 (by kernel_rfl) (by kernel_rfl) (by kernel_rfl) ?_
        simp only [List.take_succ_cons, List.take_zero, fillL, Act.put, List.setIfInBounds_toArray, List.set_cons_zero, List.set_cons_succ]
        iterate 4
          apply rel_is
          · intro u wx hb hd
            have hz := hb.size
            (try simp only [World.size_alloc, World.size_setCell] at hz)
            have hz0 : V0 < wx.heap.size := by omega
            have hz1 : V1 < wx.heap.size := by omega
            have hz2 : w.heap.size < wx.heap.size := by omega
            have hz3 : w.heap.size + 1 < wx.heap.size := by omega
            have hz4 : w.heap.size + 1 + 1 < wx.heap.size := by omega
            obtain ⟨hc, hf⟩ := bcell hb
            have HBX := Lib.hid hb
            clear hb hz
            simp [depsS, Region.binds, updS, Stay.is, Stay.any] at hd
            go_simp
            first | exact ⟨Below.refl _ _, rfl⟩ | rfl
        apply rel_is
        · intro u wx hb hd
          have hz := hb.size
          (try simp only [World.size_alloc, World.size_setCell] at hz)
          have hz0 : V0 < wx.heap.size := by omega
          have hz1 : V1 < wx.heap.size := by omega
          have hz2 : w.heap.size < wx.heap.size := by omega
          have hz3 : w.heap.size + 1 < wx.heap.size := by omega
          have hz4 : w.heap.size + 1 + 1 < wx.heap.size := by omega
          obtain ⟨hc, hf⟩ := bcell hb
          have HBX := Lib.hid hb
          clear hb hz
          simp [depsS, Region.binds, updS, Stay.is, Stay.any] at hd
          go_simp
          first | rfl | (go_at_call 76; refine (rminus_w y x false true Y X wx HY.out HX.out HLE.out).mono ?_; rintro e w1 ⟨rfl, hb1⟩; (try rw [HSG.out]); first | exact ⟨rfl, hb1⟩ | exact ⟨_, rfl, hb1, rfl⟩)
        apply rel_is
        · intro u wx hb hd
          have hz := hb.size
          (try simp only [World.size_alloc, World.size_setCell] at hz)
          have hz0 : V0 < wx.heap.size := by omega
          have hz1 : V1 < wx.heap.size := by omega
          have hz2 : w.heap.size < wx.heap.size := by omega
          have hz3 : w.heap.size + 1 < wx.heap.size := by omega
          have hz4 : w.heap.size + 1 + 1 < wx.heap.size := by omega
          obtain ⟨hc, hf⟩ := bcell hb
          have HBX := Lib.hid hb
          clear hb hz
          simp [depsS, Region.binds, updS, Stay.is, Stay.any] at hd
          go_simp
          first | rfl | (go_at_call 57; refine (join_dg false ((y.natAbs : Int) - x.natAbs) wx HMB.out.1 HMB.out.2).mono ?_; rintro e w1 ⟨rfl, hb1⟩; (try rw [HSG.out]); first | exact ⟨rfl, hb1⟩ | exact ⟨_, rfl, hb1, rfl⟩)
        intro u w7 hb hE
        have e0 : u 0 = _ := endS_get hE 0 (by decide)
        have e1 : u 1 = _ := endS_get hE 1 (by decide)
        have e2 : u 2 = _ := endS_get hE 2 (by decide)
        have e3 : u 3 = _ := endS_get hE 3 (by decide)
        have e4 : u 4 = _ := endS_get hE 4 (by decide)
        have e5 : u 5 = _ := endS_get hE 5 (by decide)
        simp only [List.drop_succ_cons, List.drop_zero, List.take_succ_cons, List.take_zero, fillL, Act.put, List.setIfInBounds_toArray, List.set_cons_zero, List.set_cons_succ, e0, e1, e2, e3, e4, e5]
        clear e0 e1 e2 e3 e4 e5 hE
        have HBw7 := Lib.hid (below_step (w := w6) (by first | assumption | go_grown) hb)
        have HBXw7 := Lib.hid hb
        have hzw7 := hb.size
        (try simp only [World.size_alloc, World.size_setCell] at hzw7)
        have hzw70 : V0 < w7.heap.size := by omega
        have hzw71 : V1 < w7.heap.size := by omega
        have hzw72 : w.heap.size < w7.heap.size := by omega
        have hzw73 : w.heap.size + 1 < w7.heap.size := by omega
        have hzw74 : w.heap.size + 1 + 1 < w7.heap.size := by omega
        obtain ⟨hcw7, hfw7⟩ := bcell hb
        clear hb hzw7
        have hB7 : Below w.heap.size w w7 := below_step hB6 HBXw7.out
        go_wp2
        all_goals (refine bodyPost_ret (v := .tuple #[.agg #[.bool SG, .int .u64 ((joinF (dgF 4294967296 ((y.natAbs : Int) - x.natAbs))) 0), .int .u64 ((joinF (dgF 4294967296 ((y.natAbs : Int) - x.natAbs))) 1), .int .u64 ((joinF (dgF 4294967296 ((y.natAbs : Int) - x.natAbs))) 2), .int .u64 ((joinF (dgF 4294967296 ((y.natAbs : Int) - x.natAbs))) 3)], .int .i64 0]) (by simp (maxDischargeDepth := 9) [results, Try.results60, go_sem, *]) rfl ?_)
        refine ⟨joinF (dgF 4294967296 ((y.natAbs : Int) - x.natAbs)), rfl, ?_, by go_grown⟩
        have h := join_isF (dg_is HMB.out.1 HMB.out.2).1 (dg_is HMB.out.1 HMB.out.2).2
        rw [HSG.out] at h
        rw [← HXY.out]
        exact h
  | false =>
    cases by' with
    | true =>
      have hx2 := of_decide_eq_false HX.out.1.symm
      have hy2 := of_decide_eq_true HY.out.1.symm
      have hbx := isW_lt HX.out
      have hby := isW_lt HY.out
      go_enter Try.func60, Try.ntmps60
      go_wp2_with fail
      refine wp_region_seq 8 [⟨4, 6, #[.int .u64 0, .int .u64 0, .int .u64 0, .int .u64 0, .int .u64 0, .int .u64 0, .int .u64 0, .int .u64 0], 84⟩, ⟨5, 7, #[.int .u64 0, .int .u64 0, .int .u64 0, .int .u64 0, .int .u64 0, .int .u64 0, .int .u64 0, .int .u64 0], 84⟩] [] (by kernel_rfl) (by kernel_rfl) (by kernel_rfl) (by kernel_rfl) (by kernel_rfl) ?_ ?_ ?_
      · intro r hr; cases hr
      · intro r hr; cases hr
      simp only [List.take_succ_cons, List.take_zero, fillL, Act.put, List.setIfInBounds_toArray, List.set_cons_zero, List.set_cons_succ]
      apply seq_is (by kernel_rfl)
      · intro u wx hb hd
        replace hb := hb.nil
        have hz := hb.size
        (try simp only [World.size_alloc, World.size_setCell] at hz)
        have hz0 : w.heap.size < wx.heap.size := by omega
        have hz1 : w.heap.size + 1 < wx.heap.size := by omega
        have hz2 : w.heap.size + 1 + 1 < wx.heap.size := by omega
        obtain ⟨hc, hf⟩ := bcell hb
        clear hb hz
        simp [depsE, Region.binds, updE, kindOf, Prp.is, Prp.any] at hd
        go_simp
        first | exact ⟨Below.refl _ _, rfl⟩ | rfl
      apply seq_is (by kernel_rfl)
      · intro u wx hb hd
        replace hb := hb.nil
        have hz := hb.size
        (try simp only [World.size_alloc, World.size_setCell] at hz)
        have hz0 : w.heap.size < wx.heap.size := by omega
        have hz1 : w.heap.size + 1 < wx.heap.size := by omega
        have hz2 : w.heap.size + 1 + 1 < wx.heap.size := by omega
        obtain ⟨hc, hf⟩ := bcell hb
        clear hb hz
        simp [depsE, Region.binds, updE, kindOf, Prp.is, Prp.any] at hd
        go_simp
        first | rfl | (go_at_call 58; refine (split_w x false X wx HX.out).mono ?_; rintro e w1 ⟨rfl, hb1⟩; first | exact ⟨rfl, hb1⟩ | exact ⟨_, rfl, hb1, rfl⟩)
      apply seq_is (by kernel_rfl)
      · intro u wx hb hd
        replace hb := hb.nil
        have hz := hb.size
        (try simp only [World.size_alloc, World.size_setCell] at hz)
        have hz0 : w.heap.size < wx.heap.size := by omega
        have hz1 : w.heap.size + 1 < wx.heap.size := by omega
        have hz2 : w.heap.size + 1 + 1 < wx.heap.size := by omega
        obtain ⟨hc, hf⟩ := bcell hb
        clear hb hz
        simp [depsE, Region.binds, updE, kindOf, Prp.is, Prp.any] at hd
        go_simp
        first | exact ⟨Below.refl _ _, rfl⟩ | rfl
      apply seq_is (by kernel_rfl)
      · intro u wx hb hd
        replace hb := hb.nil
        have hz := hb.size
        (try simp only [World.size_alloc, World.size_setCell] at hz)
        have hz0 : w.heap.size < wx.heap.size := by omega
        have hz1 : w.heap.size + 1 < wx.heap.size := by omega
        have hz2 : w.heap.size + 1 + 1 < wx.heap.size := by omega
        obtain ⟨hc, hf⟩ := bcell hb
        clear hb hz
        simp [depsE, Region.binds, updE, kindOf, Prp.is, Prp.any] at hd
        go_simp
        first | rfl | (go_at_call 58; refine (split_w y true Y wx HY.out).mono ?_; rintro e w1 ⟨rfl, hb1⟩; first | exact ⟨rfl, hb1⟩ | exact ⟨_, rfl, hb1, rfl⟩)
      refine seq_var ⟨4, 6, #[.int .u64 0, .int .u64 0, .int .u64 0, .int .u64 0, .int .u64 0, .int .u64 0, .int .u64 0, .int .u64 0], 84⟩ (by simp) rfl ?_ ?_
      · intro u wx hb
        refine ⟨by simp [Region.wanted], ?_⟩
        go_simp
        first | done | rfl | exact ⟨rfl, rfl⟩
      refine seq_var ⟨5, 7, #[.int .u64 0, .int .u64 0, .int .u64 0, .int .u64 0, .int .u64 0, .int .u64 0, .int .u64 0, .int .u64 0], 84⟩ (by simp) rfl ?_ ?_
      · intro u wx hb
        refine ⟨by simp [Region.wanted], ?_⟩
        go_simp
        first | done | rfl | exact ⟨rfl, rfl⟩
      apply seq_sto_agg ⟨4, 6, #[.int .u64 0, .int .u64 0, .int .u64 0, .int .u64 0, .int .u64 0, .int .u64 0, .int .u64 0, .int .u64 0], 84⟩ (by simp) rfl (by kernel_rfl) rfl (by kernel_rfl)
      · intro u wx hb hd
        replace hb := hb.nil
        have hz := hb.size
        (try simp only [World.size_alloc, World.size_setCell] at hz)
        have hz0 : w.heap.size < wx.heap.size := by omega
        have hz1 : w.heap.size + 1 < wx.heap.size := by omega
        have hz2 : w.heap.size + 1 + 1 < wx.heap.size := by omega
        obtain ⟨hc, hf⟩ := bcell hb
        clear hb hz
        simp [depsE, Region.binds, updE, kindOf, Prp.is, Prp.any] at hd
        refine ⟨by simp [Region.wanted], fun b' hub hlb hcells => ?_⟩
        have hub' : u 4 = .pointer (some ⟨b', 0, none⟩) := hub
        have hcells' : wx.heap[b']? = some (.cells #[.int .u64 0, .int .u64 0, .int .u64 0, .int .u64 0, .int .u64 0, .int .u64 0, .int .u64 0, .int .u64 0] 84) := hcells
        have hat := cells_at8 hcells'
        have HCL := Lib.hid hcells'
        clear hcells hcells' hub
        go_simp
        exact Stored.c8 HCL.out _ _ _ _ _ _ _ _
      apply seq_sto_agg ⟨5, 7, #[.int .u64 0, .int .u64 0, .int .u64 0, .int .u64 0, .int .u64 0, .int .u64 0, .int .u64 0, .int .u64 0], 84⟩ (by simp) rfl (by kernel_rfl) rfl (by kernel_rfl)
      · intro u wx hb hd
        replace hb := hb.nil
        have hz := hb.size
        (try simp only [World.size_alloc, World.size_setCell] at hz)
        have hz0 : w.heap.size < wx.heap.size := by omega
        have hz1 : w.heap.size + 1 < wx.heap.size := by omega
        have hz2 : w.heap.size + 1 + 1 < wx.heap.size := by omega
        obtain ⟨hc, hf⟩ := bcell hb
        clear hb hz
        simp [depsE, Region.binds, updE, kindOf, Prp.is, Prp.any] at hd
        refine ⟨by simp [Region.wanted], fun b' hub hlb hcells => ?_⟩
        have hub' : u 5 = .pointer (some ⟨b', 0, none⟩) := hub
        have hcells' : wx.heap[b']? = some (.cells #[.int .u64 0, .int .u64 0, .int .u64 0, .int .u64 0, .int .u64 0, .int .u64 0, .int .u64 0, .int .u64 0] 84) := hcells
        have hat := cells_at8 hcells'
        have HCL := Lib.hid hcells'
        clear hcells hcells' hub
        go_simp
        exact Stored.c8 HCL.out _ _ _ _ _ _ _ _
      intro u w5 hb hE hV hP
      replace hb := hb.nil
      clear hP
      have e0 : u 0 = _ := endE_get hE 0 (by decide) (by simp [kindOf])
      have e1 : u 1 = _ := endE_get hE 1 (by decide) (by simp [kindOf])
      have e2 : u 2 = _ := endE_get hE 2 (by decide) (by simp [kindOf])
      have e3 : u 3 = _ := endE_get hE 3 (by decide) (by simp [kindOf])
      have e6 : u 6 = _ := endE_get hE 6 (by decide) (by simp [kindOf])
      have e7 : u 7 = _ := endE_get hE 7 (by decide) (by simp [kindOf])
      obtain ⟨⟨V0, pv0, lv0, qv0⟩, ⟨nq01, -⟩, ⟨⟨V1, pv1, lv1, qv1⟩, -, -⟩⟩ := hV
      replace qv0 : w5.heap[V0]? = some (.cells (u 6).cells 84) := qv0
      rw [e6] at qv0
      replace pv0 : u 4 = .pointer (some ⟨V0, 0, none⟩) := pv0
      obtain ⟨mV00, mV01, mV02, mV03, mV04, mV05, mV06, mV07, mfV0, msV0⟩ := cells_at8 qv0
      have HQV0 := Lib.hid qv0
      clear qv0
      replace qv1 : w5.heap[V1]? = some (.cells (u 7).cells 84) := qv1
      rw [e7] at qv1
      replace pv1 : u 5 = .pointer (some ⟨V1, 0, none⟩) := pv1
      obtain ⟨mV10, mV11, mV12, mV13, mV14, mV15, mV16, mV17, mfV1, msV1⟩ := cells_at8 qv1
      have HQV1 := Lib.hid qv1
      clear qv1
      have dV0V1 : V0 ≠ V1 := fun e => nq01 (by show u _ = u _; rw [pv0, pv1, e])
      clear nq01
      (try simp only [World.size_alloc, World.size_setCell] at lv0)
      have dV0w50 : V0 ≠ w.heap.size := by omega
      have dV0w51 : V0 ≠ w.heap.size + 1 := by omega
      have dV0w52 : V0 ≠ w.heap.size + 1 + 1 := by omega
      (try have lbV0 : w.heap.size ≤ V0 := by omega)
      clear lv0
      (try simp only [World.size_alloc, World.size_setCell] at lv1)
      have dV1w50 : V1 ≠ w.heap.size := by omega
      have dV1w51 : V1 ≠ w.heap.size + 1 := by omega
      have dV1w52 : V1 ≠ w.heap.size + 1 + 1 := by omega
      (try have lbV1 : w.heap.size ≤ V1 := by omega)
      clear lv1
      simp only [List.drop_succ_cons, List.drop_zero, List.take_succ_cons, List.take_zero, fillL, Act.put, List.setIfInBounds_toArray, List.set_cons_zero, List.set_cons_succ, e0, e1, e2, e3, e6, e7, pv0, pv1]
      clear e0 e1 e2 e3 e6 e7 pv0 pv1 hE
      have HBWw5 := Lib.hid hb
      have hw5 := below_step (w := w) (by first | assumption | go_grown) hb
      have hzw5 := hb.size
      (try simp only [World.size_alloc, World.size_setCell] at hzw5)
      have hzw50 : w.heap.size < w5.heap.size := by omega
      have hzw51 : w.heap.size + 1 < w5.heap.size := by omega
      have hzw52 : w.heap.size + 1 + 1 < w5.heap.size := by omega
      have HHw5 := Lib.hid hb.block
      obtain ⟨hcw5, hfw5⟩ := bcell hb
      clear hb hzw5
      obtain ⟨CV, hCV⟩ : ∃ c, cmpI (x.natAbs : Int) (y.natAbs : Int) = c := ⟨_, rfl⟩
      have HCV := Lib.hid hCV
      go_wp2_with fail
      (go_at_call 59; refine (rcompare_w x y false true X Y _ HX.out HY.out).mono ?_; rintro e_ w6 ⟨rfl, hb⟩)
      rw [hCV]
      clear hCV
      have hz6 := hb.size
      (try simp only [World.size_alloc, World.size_setCell] at hz6)
      have a0 : w6.cell? ⟨w.heap.size, 0, none⟩ = some (.bool false) := (hb.cell (p := ⟨_, _, none⟩) (by simp <;> omega)).trans ((HBWw5.out.cell (p := ⟨_, _, none⟩) (by simp <;> omega)).trans (by simp [go_sem]))
      have b0 : w6.cell? ⟨w.heap.size + 1, 0, none⟩ = some (.bool true) := (hb.cell (p := ⟨_, _, none⟩) (by simp <;> omega)).trans ((HBWw5.out.cell (p := ⟨_, _, none⟩) (by simp <;> omega)).trans (by simp [go_sem]))
      have r0 : w6.cell? ⟨w.heap.size + 1 + 1, 0, none⟩ = some (.bool false) := (hb.cell (p := ⟨_, _, none⟩) (by simp <;> omega)).trans ((HBWw5.out.cell (p := ⟨_, _, none⟩) (by simp <;> omega)).trans (by simp [go_sem]))
      have fr0 : w6.frozen? ⟨w.heap.size + 1 + 1, 0, none⟩ = false := (hb.frozen (p := ⟨_, _, none⟩) (by simp <;> omega)).trans ((HBWw5.out.frozen (p := ⟨_, _, none⟩) (by simp <;> omega)).trans (by simp [go_sem]))
      have r1 : w6.cell? ⟨w.heap.size + 1 + 1, 1, none⟩ = some (.int .u64 0) := (hb.cell (p := ⟨_, _, none⟩) (by simp <;> omega)).trans ((HBWw5.out.cell (p := ⟨_, _, none⟩) (by simp <;> omega)).trans (by simp [go_sem]))
      have fr1 : w6.frozen? ⟨w.heap.size + 1 + 1, 1, none⟩ = false := (hb.frozen (p := ⟨_, _, none⟩) (by simp <;> omega)).trans ((HBWw5.out.frozen (p := ⟨_, _, none⟩) (by simp <;> omega)).trans (by simp [go_sem]))
      have r2 : w6.cell? ⟨w.heap.size + 1 + 1, 2, none⟩ = some (.int .u64 0) := (hb.cell (p := ⟨_, _, none⟩) (by simp <;> omega)).trans ((HBWw5.out.cell (p := ⟨_, _, none⟩) (by simp <;> omega)).trans (by simp [go_sem]))
      have fr2 : w6.frozen? ⟨w.heap.size + 1 + 1, 2, none⟩ = false := (hb.frozen (p := ⟨_, _, none⟩) (by simp <;> omega)).trans ((HBWw5.out.frozen (p := ⟨_, _, none⟩) (by simp <;> omega)).trans (by simp [go_sem]))
      have r3 : w6.cell? ⟨w.heap.size + 1 + 1, 3, none⟩ = some (.int .u64 0) := (hb.cell (p := ⟨_, _, none⟩) (by simp <;> omega)).trans ((HBWw5.out.cell (p := ⟨_, _, none⟩) (by simp <;> omega)).trans (by simp [go_sem]))
      have fr3 : w6.frozen? ⟨w.heap.size + 1 + 1, 3, none⟩ = false := (hb.frozen (p := ⟨_, _, none⟩) (by simp <;> omega)).trans ((HBWw5.out.frozen (p := ⟨_, _, none⟩) (by simp <;> omega)).trans (by simp [go_sem]))
      have r4 : w6.cell? ⟨w.heap.size + 1 + 1, 4, none⟩ = some (.int .u64 0) := (hb.cell (p := ⟨_, _, none⟩) (by simp <;> omega)).trans ((HBWw5.out.cell (p := ⟨_, _, none⟩) (by simp <;> omega)).trans (by simp [go_sem]))
      have fr4 : w6.frozen? ⟨w.heap.size + 1 + 1, 4, none⟩ = false := (hb.frozen (p := ⟨_, _, none⟩) (by simp <;> omega)).trans ((HBWw5.out.frozen (p := ⟨_, _, none⟩) (by simp <;> omega)).trans (by simp [go_sem]))
      have p0 : w6.cell? ⟨V0, 0, none⟩ = some (.int .u64 (splitF X 0)) := (hb.cell (p := ⟨_, _, none⟩) msV0).trans mV00
      have p1 : w6.cell? ⟨V0, 1, none⟩ = some (.int .u64 (splitF X 1)) := (hb.cell (p := ⟨_, _, none⟩) msV0).trans mV01
      have p2 : w6.cell? ⟨V0, 2, none⟩ = some (.int .u64 (splitF X 2)) := (hb.cell (p := ⟨_, _, none⟩) msV0).trans mV02
      have p3 : w6.cell? ⟨V0, 3, none⟩ = some (.int .u64 (splitF X 3)) := (hb.cell (p := ⟨_, _, none⟩) msV0).trans mV03
      have p4 : w6.cell? ⟨V0, 4, none⟩ = some (.int .u64 (splitF X 4)) := (hb.cell (p := ⟨_, _, none⟩) msV0).trans mV04
      have p5 : w6.cell? ⟨V0, 5, none⟩ = some (.int .u64 (splitF X 5)) := (hb.cell (p := ⟨_, _, none⟩) msV0).trans mV05
      have p6 : w6.cell? ⟨V0, 6, none⟩ = some (.int .u64 (splitF X 6)) := (hb.cell (p := ⟨_, _, none⟩) msV0).trans mV06
      have p7 : w6.cell? ⟨V0, 7, none⟩ = some (.int .u64 (splitF X 7)) := (hb.cell (p := ⟨_, _, none⟩) msV0).trans mV07
      have q0 : w6.cell? ⟨V1, 0, none⟩ = some (.int .u64 (splitF Y 0)) := (hb.cell (p := ⟨_, _, none⟩) msV1).trans mV10
      have q1 : w6.cell? ⟨V1, 1, none⟩ = some (.int .u64 (splitF Y 1)) := (hb.cell (p := ⟨_, _, none⟩) msV1).trans mV11
      have q2 : w6.cell? ⟨V1, 2, none⟩ = some (.int .u64 (splitF Y 2)) := (hb.cell (p := ⟨_, _, none⟩) msV1).trans mV12
      have q3 : w6.cell? ⟨V1, 3, none⟩ = some (.int .u64 (splitF Y 3)) := (hb.cell (p := ⟨_, _, none⟩) msV1).trans mV13
      have q4 : w6.cell? ⟨V1, 4, none⟩ = some (.int .u64 (splitF Y 4)) := (hb.cell (p := ⟨_, _, none⟩) msV1).trans mV14
      have q5 : w6.cell? ⟨V1, 5, none⟩ = some (.int .u64 (splitF Y 5)) := (hb.cell (p := ⟨_, _, none⟩) msV1).trans mV15
      have q6 : w6.cell? ⟨V1, 6, none⟩ = some (.int .u64 (splitF Y 6)) := (hb.cell (p := ⟨_, _, none⟩) msV1).trans mV16
      have q7 : w6.cell? ⟨V1, 7, none⟩ = some (.int .u64 (splitF Y 7)) := (hb.cell (p := ⟨_, _, none⟩) msV1).trans mV17
      have hv06 : V0 < w6.heap.size := by omega
      have hv16 : V1 < w6.heap.size := by omega
      have hz60 : w.heap.size < w6.heap.size := by omega
      have hz61 : w.heap.size + 1 < w6.heap.size := by omega
      have hz62 : w.heap.size + 1 + 1 < w6.heap.size := by omega
      have hB6 : Below w.heap.size w w6 := below_step hw5 hb
      clear hb hcw5 hfw5
      by_cases hle : (y.natAbs : Int) ≤ x.natAbs
      · have kc : decide (0 ≤ CV) = true := decide_eq_true (by rw [← HCV.out]; unfold cmpI; split <;> (try split) <;> omega)
        have HSG : Hid (sgB false ((x.natAbs : Int) - y.natAbs) = SG) := by
          show _ = _
          rw [sgB_F, ← HSG0.out]
          congr 1
          exact propext ⟨fun h => by omega, fun h => by omega⟩
        have HLE : Hid ((y.natAbs : Int) ≤ x.natAbs) := hle
        have HMB : Hid (0 ≤ ((x.natAbs : Int) - y.natAbs) ∧ ((x.natAbs : Int) - y.natAbs) < 115792089237316195423570985008687907853269984665640564039457584007913129639936) := ⟨by omega, by omega⟩
        have HXY : Hid (((x.natAbs : Int) - y.natAbs) = x + y) := by show _ = _; omega
        go_wp2_with fail
        refine wp_region_relw 6 (by kernel_rfl) (by kernel_rfl) (by kernel_rfl) ?_
        simp only [List.take_succ_cons, List.take_zero, fillL, Act.put, List.setIfInBounds_toArray, List.set_cons_zero, List.set_cons_succ]
        iterate 4
          apply rel_is
          · intro u wx hb hd
            have hz := hb.size
            (try simp only [World.size_alloc, World.size_setCell] at hz)
            have hz0 : V0 < wx.heap.size := by omega
            have hz1 : V1 < wx.heap.size := by omega
            have hz2 : w.heap.size < wx.heap.size := by omega
            have hz3 : w.heap.size + 1 < wx.heap.size := by omega
            have hz4 : w.heap.size + 1 + 1 < wx.heap.size := by omega
            obtain ⟨hc, hf⟩ := bcell hb
            have HBX := Lib.hid hb
            clear hb hz
            simp [depsS, Region.binds, updS, Stay.is, Stay.any] at hd
            go_simp
            first | exact ⟨Below.refl _ _, rfl⟩ | rfl
        apply rel_is
        · intro u wx hb hd
          have hz := hb.size
          (try simp only [World.size_alloc, World.size_setCell] at hz)
          have hz0 : V0 < wx.heap.size := by omega
          have hz1 : V1 < wx.heap.size := by omega
          have hz2 : w.heap.size < wx.heap.size := by omega
          have hz3 : w.heap.size + 1 < wx.heap.size := by omega
          have hz4 : w.heap.size + 1 + 1 < wx.heap.size := by omega
          obtain ⟨hc, hf⟩ := bcell hb
          have HBX := Lib.hid hb
          clear hb hz
          simp [depsS, Region.binds, updS, Stay.is, Stay.any] at hd
          go_simp
          first | rfl | (go_at_call 76; refine (rminus_w x y false true X Y wx HX.out HY.out HLE.out).mono ?_; rintro e w1 ⟨rfl, hb1⟩; (try rw [HSG.out]); first | exact ⟨rfl, hb1⟩ | exact ⟨_, rfl, hb1, rfl⟩)
        apply rel_is
        · intro u wx hb hd
          have hz := hb.size
          (try simp only [World.size_alloc, World.size_setCell] at hz)
          have hz0 : V0 < wx.heap.size := by omega
          have hz1 : V1 < wx.heap.size := by omega
          have hz2 : w.heap.size < wx.heap.size := by omega
          have hz3 : w.heap.size + 1 < wx.heap.size := by omega
          have hz4 : w.heap.size + 1 + 1 < wx.heap.size := by omega
          obtain ⟨hc, hf⟩ := bcell hb
          have HBX := Lib.hid hb
          clear hb hz
          simp [depsS, Region.binds, updS, Stay.is, Stay.any] at hd
          go_simp
          first | rfl | (go_at_call 57; refine (join_dg false ((x.natAbs : Int) - y.natAbs) wx HMB.out.1 HMB.out.2).mono ?_; rintro e w1 ⟨rfl, hb1⟩; (try rw [HSG.out]); first | exact ⟨rfl, hb1⟩ | exact ⟨_, rfl, hb1, rfl⟩)
        intro u w7 hb hE
        have e0 : u 0 = _ := endS_get hE 0 (by decide)
        have e1 : u 1 = _ := endS_get hE 1 (by decide)
        have e2 : u 2 = _ := endS_get hE 2 (by decide)
        have e3 : u 3 = _ := endS_get hE 3 (by decide)
        have e4 : u 4 = _ := endS_get hE 4 (by decide)
        have e5 : u 5 = _ := endS_get hE 5 (by decide)
        simp only [List.drop_succ_cons, List.drop_zero, List.take_succ_cons, List.take_zero, fillL, Act.put, List.setIfInBounds_toArray, List.set_cons_zero, List.set_cons_succ, e0, e1, e2, e3, e4, e5]
        clear e0 e1 e2 e3 e4 e5 hE
        have HBw7 := Lib.hid (below_step (w := w6) (by first | assumption | go_grown) hb)
        have HBXw7 := Lib.hid hb
        have hzw7 := hb.size
        (try simp only [World.size_alloc, World.size_setCell] at hzw7)
        have hzw70 : V0 < w7.heap.size := by omega
        have hzw71 : V1 < w7.heap.size := by omega
        have hzw72 : w.heap.size < w7.heap.size := by omega
        have hzw73 : w.heap.size + 1 < w7.heap.size := by omega
        have hzw74 : w.heap.size + 1 + 1 < w7.heap.size := by omega
        obtain ⟨hcw7, hfw7⟩ := bcell hb
        clear hb hzw7
        have hB7 : Below w.heap.size w w7 := below_step hB6 HBXw7.out
        go_wp2
        all_goals (refine bodyPost_ret (v := .tuple #[.agg #[.bool SG, .int .u64 ((joinF (dgF 4294967296 ((x.natAbs : Int) - y.natAbs))) 0), .int .u64 ((joinF (dgF 4294967296 ((x.natAbs : Int) - y.natAbs))) 1), .int .u64 ((joinF (dgF 4294967296 ((x.natAbs : Int) - y.natAbs))) 2), .int .u64 ((joinF (dgF 4294967296 ((x.natAbs : Int) - y.natAbs))) 3)], .int .i64 0]) (by simp (maxDischargeDepth := 9) [results, Try.results60, go_sem, *]) rfl ?_)
        refine ⟨joinF (dgF 4294967296 ((x.natAbs : Int) - y.natAbs)), rfl, ?_, by go_grown⟩
        have h := join_isF (dg_is HMB.out.1 HMB.out.2).1 (dg_is HMB.out.1 HMB.out.2).2
        rw [HSG.out] at h
        rw [← HXY.out]
        exact h
      · have kc : decide (0 ≤ CV) = false := decide_eq_false (by rw [← HCV.out]; unfold cmpI; rw [if_pos (by omega)]; decide)
        replace hle : (x.natAbs : Int) ≤ y.natAbs := by omega
        have HSG : Hid (sgB true ((y.natAbs : Int) - x.natAbs) = SG) := by
          show _ = _
          rw [sgB_T, ← HSG0.out]
          congr 1
          exact propext ⟨fun h => by omega, fun h => by omega⟩
        have HLE : Hid ((x.natAbs : Int) ≤ y.natAbs) := hle
        have HMB : Hid (0 ≤ ((y.natAbs : Int) - x.natAbs) ∧ ((y.natAbs : Int) - x.natAbs) < 115792089237316195423570985008687907853269984665640564039457584007913129639936) := ⟨by omega, by omega⟩
        have HXY : Hid (-((y.natAbs : Int) - x.natAbs) = x + y) := by show _ = _; omega
        go_wp2_with fail
        refine wp_region_relw 6 (by kernel_rfl) (by kernel_rfl) (by kernel_rfl) ?_
        simp only [List.take_succ_cons, List.take_zero, fillL, Act.put, List.setIfInBounds_toArray, List.set_cons_zero, List.set_cons_succ]
        iterate 4
          apply rel_is
          · intro u wx hb hd
            have hz := hb.size
            (try simp only [World.size_alloc, World.size_setCell] at hz)
            have hz0 : V0 < wx.heap.size := by omega
            have hz1 : V1 < wx.heap.size := by omega
            have hz2 : w.heap.size < wx.heap.size := by omega
            have hz3 : w.heap.size + 1 < wx.heap.size := by omega
            have hz4 : w.heap.size + 1 + 1 < wx.heap.size := by omega
            obtain ⟨hc, hf⟩ := bcell hb
            have HBX := Lib.hid hb
            clear hb hz
            simp [depsS, Region.binds, updS, Stay.is, Stay.any] at hd
            go_simp
            first | exact ⟨Below.refl _ _, rfl⟩ | rfl
        apply rel_is
        · intro u wx hb hd
          have hz := hb.size
          (try simp only [World.size_alloc, World.size_setCell] at hz)
          have hz0 : V0 < wx.heap.size := by omega
          have hz1 : V1 < wx.heap.size := by omega
          have hz2 : w.heap.size < wx.heap.size := by omega
          have hz3 : w.heap.size + 1 < wx.heap.size := by omega
          have hz4 : w.heap.size + 1 + 1 < wx.heap.size := by omega
          obtain ⟨hc, hf⟩ := bcell hb
          have HBX := Lib.hid hb
          clear hb hz
          simp [depsS, Region.binds, updS, Stay.is, Stay.any] at hd
          go_simp
          first | rfl | (go_at_call 76; refine (rminus_w y x true false Y X wx HY.out HX.out HLE.out).mono ?_; rintro e w1 ⟨rfl, hb1⟩; (try rw [HSG.out]); first | exact ⟨rfl, hb1⟩ | exact ⟨_, rfl, hb1, rfl⟩)
        apply rel_is
        · intro u wx hb hd
          have hz := hb.size
          (try simp only [World.size_alloc, World.size_setCell] at hz)
          have hz0 : V0 < wx.heap.size := by omega
          have hz1 : V1 < wx.heap.size := by omega
          have hz2 : w.heap.size < wx.heap.size := by omega
          have hz3 : w.heap.size + 1 < wx.heap.size := by omega
          have hz4 : w.heap.size + 1 + 1 < wx.heap.size := by omega
          obtain ⟨hc, hf⟩ := bcell hb
          have HBX := Lib.hid hb
          clear hb hz
          simp [depsS, Region.binds, updS, Stay.is, Stay.any] at hd
          go_simp
          first | rfl | (go_at_call 57; refine (join_dg true ((y.natAbs : Int) - x.natAbs) wx HMB.out.1 HMB.out.2).mono ?_; rintro e w1 ⟨rfl, hb1⟩; (try rw [HSG.out]); first | exact ⟨rfl, hb1⟩ | exact ⟨_, rfl, hb1, rfl⟩)
        intro u w7 hb hE
        have e0 : u 0 = _ := endS_get hE 0 (by decide)
        have e1 : u 1 = _ := endS_get hE 1 (by decide)
        have e2 : u 2 = _ := endS_get hE 2 (by decide)
        have e3 : u 3 = _ := endS_get hE 3 (by decide)
        have e4 : u 4 = _ := endS_get hE 4 (by decide)
        have e5 : u 5 = _ := endS_get hE 5 (by decide)
        simp only [List.drop_succ_cons, List.drop_zero, List.take_succ_cons, List.take_zero, fillL, Act.put, List.setIfInBounds_toArray, List.set_cons_zero, List.set_cons_succ, e0, e1, e2, e3, e4, e5]
        clear e0 e1 e2 e3 e4 e5 hE
        have HBw7 := Lib.hid (below_step (w := w6) (by first | assumption | go_grown) hb)
        have HBXw7 := Lib.hid hb
        have hzw7 := hb.size
        (try simp only [World.size_alloc, World.size_setCell] at hzw7)
        have hzw70 : V0 < w7.heap.size := by omega
        have hzw71 : V1 < w7.heap.size := by omega
        have hzw72 : w.heap.size < w7.heap.size := by omega
        have hzw73 : w.heap.size + 1 < w7.heap.size := by omega
        have hzw74 : w.heap.size + 1 + 1 < w7.heap.size := by omega
        obtain ⟨hcw7, hfw7⟩ := bcell hb
        clear hb hzw7
        have hB7 : Below w.heap.size w w7 := below_step hB6 HBXw7.out
        go_wp2
        all_goals (refine bodyPost_ret (v := .tuple #[.agg #[.bool SG, .int .u64 ((joinF (dgF 4294967296 ((y.natAbs : Int) - x.natAbs))) 0), .int .u64 ((joinF (dgF 4294967296 ((y.natAbs : Int) - x.natAbs))) 1), .int .u64 ((joinF (dgF 4294967296 ((y.natAbs : Int) - x.natAbs))) 2), .int .u64 ((joinF (dgF 4294967296 ((y.natAbs : Int) - x.natAbs))) 3)], .int .i64 0]) (by simp (maxDischargeDepth := 9) [results, Try.results60, go_sem, *]) rfl ?_)
        refine ⟨joinF (dgF 4294967296 ((y.natAbs : Int) - x.natAbs)), rfl, ?_, by go_grown⟩
        have h := join_isT (dg_is HMB.out.1 HMB.out.2).1 (dg_is HMB.out.1 HMB.out.2).2
        rw [HSG.out] at h
        rw [← HXY.out]
        exact h
    | false =>
      have hx2 := of_decide_eq_false HX.out.1.symm
      have hy2 := of_decide_eq_false HY.out.1.symm
      have hbx := isW_lt HX.out
      have hby := isW_lt HY.out
      go_enter Try.func60, Try.ntmps60
      go_wp2_with fail
      refine wp_region_seq 8 [⟨4, 6, #[.int .u64 0, .int .u64 0, .int .u64 0, .int .u64 0, .int .u64 0, .int .u64 0, .int .u64 0, .int .u64 0], 84⟩, ⟨5, 7, #[.int .u64 0, .int .u64 0, .int .u64 0, .int .u64 0, .int .u64 0, .int .u64 0, .int .u64 0, .int .u64 0], 84⟩] [] (by kernel_rfl) (by kernel_rfl) (by kernel_rfl) (by kernel_rfl) (by kernel_rfl) ?_ ?_ ?_
      · intro r hr; cases hr
      · intro r hr; cases hr
      simp only [List.take_succ_cons, List.take_zero, fillL, Act.put, List.setIfInBounds_toArray, List.set_cons_zero, List.set_cons_succ]
      apply seq_is (by kernel_rfl)
      · intro u wx hb hd
        replace hb := hb.nil
        have hz := hb.size
        (try simp only [World.size_alloc, World.size_setCell] at hz)
        have hz0 : w.heap.size < wx.heap.size := by omega
        have hz1 : w.heap.size + 1 < wx.heap.size := by omega
        have hz2 : w.heap.size + 1 + 1 < wx.heap.size := by omega
        obtain ⟨hc, hf⟩ := bcell hb
        clear hb hz
        simp [depsE, Region.binds, updE, kindOf, Prp.is, Prp.any] at hd
        go_simp
        first | exact ⟨Below.refl _ _, rfl⟩ | rfl
      apply seq_is (by kernel_rfl)
      · intro u wx hb hd
        replace hb := hb.nil
        have hz := hb.size
        (try simp only [World.size_alloc, World.size_setCell] at hz)
        have hz0 : w.heap.size < wx.heap.size := by omega
        have hz1 : w.heap.size + 1 < wx.heap.size := by omega
        have hz2 : w.heap.size + 1 + 1 < wx.heap.size := by omega
        obtain ⟨hc, hf⟩ := bcell hb
        clear hb hz
        simp [depsE, Region.binds, updE, kindOf, Prp.is, Prp.any] at hd
        go_simp
        first | rfl | (go_at_call 58; refine (split_w x false X wx HX.out).mono ?_; rintro e w1 ⟨rfl, hb1⟩; first | exact ⟨rfl, hb1⟩ | exact ⟨_, rfl, hb1, rfl⟩)
      apply seq_is (by kernel_rfl)
      · intro u wx hb hd
        replace hb := hb.nil
        have hz := hb.size
        (try simp only [World.size_alloc, World.size_setCell] at hz)
        have hz0 : w.heap.size < wx.heap.size := by omega
        have hz1 : w.heap.size + 1 < wx.heap.size := by omega
        have hz2 : w.heap.size + 1 + 1 < wx.heap.size := by omega
        obtain ⟨hc, hf⟩ := bcell hb
        clear hb hz
        simp [depsE, Region.binds, updE, kindOf, Prp.is, Prp.any] at hd
        go_simp
        first | exact ⟨Below.refl _ _, rfl⟩ | rfl
      apply seq_is (by kernel_rfl)
      · intro u wx hb hd
        replace hb := hb.nil
        have hz := hb.size
        (try simp only [World.size_alloc, World.size_setCell] at hz)
        have hz0 : w.heap.size < wx.heap.size := by omega
        have hz1 : w.heap.size + 1 < wx.heap.size := by omega
        have hz2 : w.heap.size + 1 + 1 < wx.heap.size := by omega
        obtain ⟨hc, hf⟩ := bcell hb
        clear hb hz
        simp [depsE, Region.binds, updE, kindOf, Prp.is, Prp.any] at hd
        go_simp
        first | rfl | (go_at_call 58; refine (split_w y false Y wx HY.out).mono ?_; rintro e w1 ⟨rfl, hb1⟩; first | exact ⟨rfl, hb1⟩ | exact ⟨_, rfl, hb1, rfl⟩)
      refine seq_var ⟨4, 6, #[.int .u64 0, .int .u64 0, .int .u64 0, .int .u64 0, .int .u64 0, .int .u64 0, .int .u64 0, .int .u64 0], 84⟩ (by simp) rfl ?_ ?_
      · intro u wx hb
        refine ⟨by simp [Region.wanted], ?_⟩
        go_simp
        first | done | rfl | exact ⟨rfl, rfl⟩
      refine seq_var ⟨5, 7, #[.int .u64 0, .int .u64 0, .int .u64 0, .int .u64 0, .int .u64 0, .int .u64 0, .int .u64 0, .int .u64 0], 84⟩ (by simp) rfl ?_ ?_
      · intro u wx hb
        refine ⟨by simp [Region.wanted], ?_⟩
        go_simp
        first | done | rfl | exact ⟨rfl, rfl⟩
      apply seq_sto_agg ⟨4, 6, #[.int .u64 0, .int .u64 0, .int .u64 0, .int .u64 0, .int .u64 0, .int .u64 0, .int .u64 0, .int .u64 0], 84⟩ (by simp) rfl (by kernel_rfl) rfl (by kernel_rfl)
      · intro u wx hb hd
        replace hb := hb.nil
        have hz := hb.size
        (try simp only [World.size_alloc, World.size_setCell] at hz)
        have hz0 : w.heap.size < wx.heap.size := by omega
        have hz1 : w.heap.size + 1 < wx.heap.size := by omega
        have hz2 : w.heap.size + 1 + 1 < wx.heap.size := by omega
        obtain ⟨hc, hf⟩ := bcell hb
        clear hb hz
        simp [depsE, Region.binds, updE, kindOf, Prp.is, Prp.any] at hd
        refine ⟨by simp [Region.wanted], fun b' hub hlb hcells => ?_⟩
        have hub' : u 4 = .pointer (some ⟨b', 0, none⟩) := hub
        have hcells' : wx.heap[b']? = some (.cells #[.int .u64 0, .int .u64 0, .int .u64 0, .int .u64 0, .int .u64 0, .int .u64 0, .int .u64 0, .int .u64 0] 84) := hcells
        have hat := cells_at8 hcells'
        have HCL := Lib.hid hcells'
        clear hcells hcells' hub
        go_simp
        exact Stored.c8 HCL.out _ _ _ _ _ _ _ _
      apply seq_sto_agg ⟨5, 7, #[.int .u64 0, .int .u64 0, .int .u64 0, .int .u64 0, .int .u64 0, .int .u64 0, .int .u64 0, .int .u64 0], 84⟩ (by simp) rfl (by kernel_rfl) rfl (by kernel_rfl)
      · intro u wx hb hd
        replace hb := hb.nil
        have hz := hb.size
        (try simp only [World.size_alloc, World.size_setCell] at hz)
        have hz0 : w.heap.size < wx.heap.size := by omega
        have hz1 : w.heap.size + 1 < wx.heap.size := by omega
        have hz2 : w.heap.size + 1 + 1 < wx.heap.size := by omega
        obtain ⟨hc, hf⟩ := bcell hb
        clear hb hz
        simp [depsE, Region.binds, updE, kindOf, Prp.is, Prp.any] at hd
        refine ⟨by simp [Region.wanted], fun b' hub hlb hcells => ?_⟩
        have hub' : u 5 = .pointer (some ⟨b', 0, none⟩) := hub
        have hcells' : wx.heap[b']? = some (.cells #[.int .u64 0, .int .u64 0, .int .u64 0, .int .u64 0, .int .u64 0, .int .u64 0, .int .u64 0, .int .u64 0] 84) := hcells
        have hat := cells_at8 hcells'
        have HCL := Lib.hid hcells'
        clear hcells hcells' hub
        go_simp
        exact Stored.c8 HCL.out _ _ _ _ _ _ _ _
      intro u w5 hb hE hV hP
      replace hb := hb.nil
      clear hP
      have e0 : u 0 = _ := endE_get hE 0 (by decide) (by simp [kindOf])
      have e1 : u 1 = _ := endE_get hE 1 (by decide) (by simp [kindOf])
      have e2 : u 2 = _ := endE_get hE 2 (by decide) (by simp [kindOf])
      have e3 : u 3 = _ := endE_get hE 3 (by decide) (by simp [kindOf])
      have e6 : u 6 = _ := endE_get hE 6 (by decide) (by simp [kindOf])
      have e7 : u 7 = _ := endE_get hE 7 (by decide) (by simp [kindOf])
      obtain ⟨⟨V0, pv0, lv0, qv0⟩, ⟨nq01, -⟩, ⟨⟨V1, pv1, lv1, qv1⟩, -, -⟩⟩ := hV
      replace qv0 : w5.heap[V0]? = some (.cells (u 6).cells 84) := qv0
      rw [e6] at qv0
      replace pv0 : u 4 = .pointer (some ⟨V0, 0, none⟩) := pv0
      obtain ⟨mV00, mV01, mV02, mV03, mV04, mV05, mV06, mV07, mfV0, msV0⟩ := cells_at8 qv0
      have HQV0 := Lib.hid qv0
      clear qv0
      replace qv1 : w5.heap[V1]? = some (.cells (u 7).cells 84) := qv1
      rw [e7] at qv1
      replace pv1 : u 5 = .pointer (some ⟨V1, 0, none⟩) := pv1
      obtain ⟨mV10, mV11, mV12, mV13, mV14, mV15, mV16, mV17, mfV1, msV1⟩ := cells_at8 qv1
      have HQV1 := Lib.hid qv1
      clear qv1
      have dV0V1 : V0 ≠ V1 := fun e => nq01 (by show u _ = u _; rw [pv0, pv1, e])
      clear nq01
      (try simp only [World.size_alloc, World.size_setCell] at lv0)
      have dV0w50 : V0 ≠ w.heap.size := by omega
      have dV0w51 : V0 ≠ w.heap.size + 1 := by omega
      have dV0w52 : V0 ≠ w.heap.size + 1 + 1 := by omega
      (try have lbV0 : w.heap.size ≤ V0 := by omega)
      clear lv0
      (try simp only [World.size_alloc, World.size_setCell] at lv1)
      have dV1w50 : V1 ≠ w.heap.size := by omega
      have dV1w51 : V1 ≠ w.heap.size + 1 := by omega
      have dV1w52 : V1 ≠ w.heap.size + 1 + 1 := by omega
      (try have lbV1 : w.heap.size ≤ V1 := by omega)
      clear lv1
      simp only [List.drop_succ_cons, List.drop_zero, List.take_succ_cons, List.take_zero, fillL, Act.put, List.setIfInBounds_toArray, List.set_cons_zero, List.set_cons_succ, e0, e1, e2, e3, e6, e7, pv0, pv1]
      clear e0 e1 e2 e3 e6 e7 pv0 pv1 hE
      have HBWw5 := Lib.hid hb
      have hw5 := below_step (w := w) (by first | assumption | go_grown) hb
      have hzw5 := hb.size
      (try simp only [World.size_alloc, World.size_setCell] at hzw5)
      have hzw50 : w.heap.size < w5.heap.size := by omega
      have hzw51 : w.heap.size + 1 < w5.heap.size := by omega
      have hzw52 : w.heap.size + 1 + 1 < w5.heap.size := by omega
      have HHw5 := Lib.hid hb.block
      obtain ⟨hcw5, hfw5⟩ := bcell hb
      clear hb hzw5
      go_wp2_with fail
      (go_at_call 75; refine (rplus_any (splitF X) (splitF Y) _ (split_is HX.out).1 (split_is HY.out).1).mono ?_; rintro e_ w6 ⟨Z, k, rfl, hd, hk, he, hb⟩)
      have HDZ := Lib.hid hd
      have HEZ : Hid (k = 0 ∧ valN 4294967296 Z 8 = (x.natAbs : Int) + y.natAbs) := by
        have hz := valN_bd (by decide) hd
        rw [(split_is HX.out).2, (split_is HY.out).2, pw8] at he
        rw [pw8] at hz
        have hk0 : k = 0 := by omega
        subst hk0
        exact ⟨rfl, by omega⟩
      obtain rfl : k = 0 := HEZ.out.1
      clear hd hk he
      have hz6 := hb.size
      (try simp only [World.size_alloc, World.size_setCell] at hz6)
      have a0 : w6.cell? ⟨w.heap.size, 0, none⟩ = some (.bool false) := (hb.cell (p := ⟨_, _, none⟩) (by simp <;> omega)).trans ((HBWw5.out.cell (p := ⟨_, _, none⟩) (by simp <;> omega)).trans (by simp [go_sem]))
      have r0 : w6.cell? ⟨w.heap.size + 1 + 1, 0, none⟩ = some (.bool false) := (hb.cell (p := ⟨_, _, none⟩) (by simp <;> omega)).trans ((HBWw5.out.cell (p := ⟨_, _, none⟩) (by simp <;> omega)).trans (by simp [go_sem]))
      have fr0 : w6.frozen? ⟨w.heap.size + 1 + 1, 0, none⟩ = false := (hb.frozen (p := ⟨_, _, none⟩) (by simp <;> omega)).trans ((HBWw5.out.frozen (p := ⟨_, _, none⟩) (by simp <;> omega)).trans (by simp [go_sem]))
      have r1 : w6.cell? ⟨w.heap.size + 1 + 1, 1, none⟩ = some (.int .u64 0) := (hb.cell (p := ⟨_, _, none⟩) (by simp <;> omega)).trans ((HBWw5.out.cell (p := ⟨_, _, none⟩) (by simp <;> omega)).trans (by simp [go_sem]))
      have fr1 : w6.frozen? ⟨w.heap.size + 1 + 1, 1, none⟩ = false := (hb.frozen (p := ⟨_, _, none⟩) (by simp <;> omega)).trans ((HBWw5.out.frozen (p := ⟨_, _, none⟩) (by simp <;> omega)).trans (by simp [go_sem]))
      have r2 : w6.cell? ⟨w.heap.size + 1 + 1, 2, none⟩ = some (.int .u64 0) := (hb.cell (p := ⟨_, _, none⟩) (by simp <;> omega)).trans ((HBWw5.out.cell (p := ⟨_, _, none⟩) (by simp <;> omega)).trans (by simp [go_sem]))
      have fr2 : w6.frozen? ⟨w.heap.size + 1 + 1, 2, none⟩ = false := (hb.frozen (p := ⟨_, _, none⟩) (by simp <;> omega)).trans ((HBWw5.out.frozen (p := ⟨_, _, none⟩) (by simp <;> omega)).trans (by simp [go_sem]))
      have r3 : w6.cell? ⟨w.heap.size + 1 + 1, 3, none⟩ = some (.int .u64 0) := (hb.cell (p := ⟨_, _, none⟩) (by simp <;> omega)).trans ((HBWw5.out.cell (p := ⟨_, _, none⟩) (by simp <;> omega)).trans (by simp [go_sem]))
      have fr3 : w6.frozen? ⟨w.heap.size + 1 + 1, 3, none⟩ = false := (hb.frozen (p := ⟨_, _, none⟩) (by simp <;> omega)).trans ((HBWw5.out.frozen (p := ⟨_, _, none⟩) (by simp <;> omega)).trans (by simp [go_sem]))
      have r4 : w6.cell? ⟨w.heap.size + 1 + 1, 4, none⟩ = some (.int .u64 0) := (hb.cell (p := ⟨_, _, none⟩) (by simp <;> omega)).trans ((HBWw5.out.cell (p := ⟨_, _, none⟩) (by simp <;> omega)).trans (by simp [go_sem]))
      have fr4 : w6.frozen? ⟨w.heap.size + 1 + 1, 4, none⟩ = false := (hb.frozen (p := ⟨_, _, none⟩) (by simp <;> omega)).trans ((HBWw5.out.frozen (p := ⟨_, _, none⟩) (by simp <;> omega)).trans (by simp [go_sem]))
      have hB6 : Below w.heap.size w w6 := below_step hw5 hb
      clear hb hcw5 hfw5
      have HSG : Hid (sgB false (valN 4294967296 Z 8) = SG) := by
        show _ = _
        rw [HEZ.out.2, sgB_F, ← HSG0.out]
        congr 1
        exact propext ⟨fun h => by omega, fun h => by omega⟩
      have hz60 : w.heap.size < w6.heap.size := by omega
      have hz62 : w.heap.size + 1 + 1 < w6.heap.size := by omega
      go_wp2_with fail
      (go_at_call 57; refine (join_any false Z _ HDZ.out).mono ?_; rintro e_ w7 ⟨rfl, hb⟩)
      rw [HSG.out]
      have hP7 : Below w6.heap.size w6 w7 := below_step (w := w6) (by go_grown) hb
      have rr0 : w7.cell? ⟨w.heap.size + 1 + 1, 0, none⟩ = some (.bool false) := (hP7.cell (p := ⟨_, _, none⟩) hz62).trans r0
      have frr0 : w7.frozen? ⟨w.heap.size + 1 + 1, 0, none⟩ = false := (hP7.frozen (p := ⟨_, _, none⟩) hz62).trans fr0
      have rr1 : w7.cell? ⟨w.heap.size + 1 + 1, 1, none⟩ = some (.int .u64 0) := (hP7.cell (p := ⟨_, _, none⟩) hz62).trans r1
      have frr1 : w7.frozen? ⟨w.heap.size + 1 + 1, 1, none⟩ = false := (hP7.frozen (p := ⟨_, _, none⟩) hz62).trans fr1
      have rr2 : w7.cell? ⟨w.heap.size + 1 + 1, 2, none⟩ = some (.int .u64 0) := (hP7.cell (p := ⟨_, _, none⟩) hz62).trans r2
      have frr2 : w7.frozen? ⟨w.heap.size + 1 + 1, 2, none⟩ = false := (hP7.frozen (p := ⟨_, _, none⟩) hz62).trans fr2
      have rr3 : w7.cell? ⟨w.heap.size + 1 + 1, 3, none⟩ = some (.int .u64 0) := (hP7.cell (p := ⟨_, _, none⟩) hz62).trans r3
      have frr3 : w7.frozen? ⟨w.heap.size + 1 + 1, 3, none⟩ = false := (hP7.frozen (p := ⟨_, _, none⟩) hz62).trans fr3
      have rr4 : w7.cell? ⟨w.heap.size + 1 + 1, 4, none⟩ = some (.int .u64 0) := (hP7.cell (p := ⟨_, _, none⟩) hz62).trans r4
      have frr4 : w7.frozen? ⟨w.heap.size + 1 + 1, 4, none⟩ = false := (hP7.frozen (p := ⟨_, _, none⟩) hz62).trans fr4
      have hz72 : w.heap.size + 1 + 1 < w7.heap.size := by have := hP7.size; omega
      have hB7 : Below w.heap.size w w7 := below_step hB6 hP7
      clear hb hP7
      go_wp2
      all_goals (refine bodyPost_ret (v := .tuple #[.agg #[.bool SG, .int .u64 (joinF Z 0), .int .u64 (joinF Z 1), .int .u64 (joinF Z 2), .int .u64 (joinF Z 3)], .int .i64 0]) (by simp (maxDischargeDepth := 9) [results, Try.results60, go_sem, *]) rfl ?_)
      refine ⟨joinF Z, rfl, ?_, by go_grown⟩
      have h := join_isF HDZ.out rfl
      rw [HSG.out, HEZ.out.2] at h
      rwa [show ((x.natAbs : Int) + y.natAbs) = x + y by omega] at h

set_option maxHeartbeats 4000000 in
theorem rMul_any (x y : Int) (bx by' : Bool) (X Y : Nat → Int) (w : World) (hx : isW x bx X) (hy : isW y by' Y) (hs : ((x * y).natAbs : Int) < 115792089237316195423570985008687907853269984665640564039457584007913129639936) :
    Calls Try.prog 61 #[.agg #[.bool bx, .int .u64 (X 0), .int .u64 (X 1), .int .u64 (X 2), .int .u64 (X 3)], .agg #[.bool by', .int .u64 (Y 0), .int .u64 (Y 1), .int .u64 (Y 2), .int .u64 (Y 3)]] w fun e w' => ∃ Z : Nat → Int, e = .returned (.tuple #[.agg #[.bool (decide (x * y < 0)), .int .u64 (Z 0), .int .u64 (Z 1), .int .u64 (Z 2), .int .u64 (Z 3)], .int .i64 0]) ∧ isW (x * y) (decide (x * y < 0)) Z ∧ Below w.heap.size w w' := by
  have HX := Lib.hid hx
  have HY := Lib.hid hy
  obtain ⟨NB, hNB⟩ : ∃ b, (bx != by') = b := ⟨_, rfl⟩
  obtain ⟨SG, hSG⟩ : ∃ b, decide (x * y < 0) = b := ⟨_, rfl⟩
  have hms := mul_sign hx hy
  rw [hNB, hx.2.2, hy.2.2] at hms
  have HNM := Lib.hid hms
  have hne : ∀ W, (binOp .neq 4 (.bool bx) (.bool by')).run Try.prog W = .ok (.bool NB) W := by
    intro W
    rw [← hNB]
    cases bx <;> cases by' <;> kernel_rfl
  have HSG : Hid (sgB NB ((x.natAbs : Int) * y.natAbs) = SG) := by
    show _ = _
    unfold sgB
    rw [hms]
    exact hSG
  have HLT : Hid (((x.natAbs : Int) * y.natAbs) < 115792089237316195423570985008687907853269984665640564039457584007913129639936) := by
    show _ < _
    rw [← Int.natCast_mul, ← Int.natAbs_mul]
    exact hs
  have HMB : Hid (0 ≤ ((x.natAbs : Int) * y.natAbs)) := Int.mul_nonneg (by omega) (by omega)
  rw [hSG]
  clear hms hNB hSG hx hy hs
  go_enter Try.func61, Try.ntmps61
  go_wp2_with fail
  refine wp_region_seq 11 [⟨8, 9, #[.int .u64 0, .int .u64 0, .int .u64 0, .int .u64 0, .int .u64 0, .int .u64 0, .int .u64 0, .int .u64 0], 84⟩] [] (by kernel_rfl) (by kernel_rfl) (by kernel_rfl) (by kernel_rfl) (by kernel_rfl) ?_ ?_ ?_
  · intro r hr; cases hr
  · intro r hr; cases hr
  simp only [List.take_succ_cons, List.take_zero, fillL, Act.put, List.setIfInBounds_toArray, List.set_cons_zero, List.set_cons_succ]
  apply seq_is (by kernel_rfl)
  · intro u wx hb hd
    replace hb := hb.nil
    have hz := hb.size
    (try simp only [World.size_alloc, World.size_setCell] at hz)
    have hz0 : w.heap.size < wx.heap.size := by omega
    have hz1 : w.heap.size + 1 < wx.heap.size := by omega
    have hz2 : w.heap.size + 1 + 1 < wx.heap.size := by omega
    obtain ⟨hc, hf⟩ := bcell hb
    clear hb hz
    simp [depsE, Region.binds, updE, kindOf, Prp.is, Prp.any] at hd
    go_simp
    first | exact ⟨Below.refl _ _, rfl⟩ | rfl
  apply seq_is (by kernel_rfl)
  · intro u wx hb hd
    replace hb := hb.nil
    have hz := hb.size
    (try simp only [World.size_alloc, World.size_setCell] at hz)
    have hz0 : w.heap.size < wx.heap.size := by omega
    have hz1 : w.heap.size + 1 < wx.heap.size := by omega
    have hz2 : w.heap.size + 1 + 1 < wx.heap.size := by omega
    obtain ⟨hc, hf⟩ := bcell hb
    clear hb hz
    simp [depsE, Region.binds, updE, kindOf, Prp.is, Prp.any] at hd
    go_simp
    first | rfl | (go_at_call 58; refine (split_w x bx X wx HX.out).mono ?_; rintro e w1 ⟨rfl, hb1⟩; first | exact ⟨rfl, hb1⟩ | exact ⟨_, rfl, hb1, rfl⟩)
  apply seq_is (by kernel_rfl)
  · intro u wx hb hd
    replace hb := hb.nil
    have hz := hb.size
    (try simp only [World.size_alloc, World.size_setCell] at hz)
    have hz0 : w.heap.size < wx.heap.size := by omega
    have hz1 : w.heap.size + 1 < wx.heap.size := by omega
    have hz2 : w.heap.size + 1 + 1 < wx.heap.size := by omega
    obtain ⟨hc, hf⟩ := bcell hb
    clear hb hz
    simp [depsE, Region.binds, updE, kindOf, Prp.is, Prp.any] at hd
    go_simp
    first | exact ⟨Below.refl _ _, rfl⟩ | rfl
  apply seq_is (by kernel_rfl)
  · intro u wx hb hd
    replace hb := hb.nil
    have hz := hb.size
    (try simp only [World.size_alloc, World.size_setCell] at hz)
    have hz0 : w.heap.size < wx.heap.size := by omega
    have hz1 : w.heap.size + 1 < wx.heap.size := by omega
    have hz2 : w.heap.size + 1 + 1 < wx.heap.size := by omega
    obtain ⟨hc, hf⟩ := bcell hb
    clear hb hz
    simp [depsE, Region.binds, updE, kindOf, Prp.is, Prp.any] at hd
    go_simp
    first | rfl | (go_at_call 58; refine (split_w y by' Y wx HY.out).mono ?_; rintro e w1 ⟨rfl, hb1⟩; first | exact ⟨rfl, hb1⟩ | exact ⟨_, rfl, hb1, rfl⟩)
  apply seq_is (by kernel_rfl)
  · intro u wx hb hd
    replace hb := hb.nil
    have hz := hb.size
    (try simp only [World.size_alloc, World.size_setCell] at hz)
    have hz0 : w.heap.size < wx.heap.size := by omega
    have hz1 : w.heap.size + 1 < wx.heap.size := by omega
    have hz2 : w.heap.size + 1 + 1 < wx.heap.size := by omega
    obtain ⟨hc, hf⟩ := bcell hb
    clear hb hz
    simp [depsE, Region.binds, updE, kindOf, Prp.is, Prp.any] at hd
    go_simp
    first | rfl | (go_at_call 77; refine (rtimes_w x y bx by' X Y wx HX.out HY.out HLT.out).mono ?_; rintro e w1 ⟨rfl, hb1⟩; first | exact ⟨rfl, hb1⟩ | exact ⟨_, rfl, hb1, rfl⟩)
  apply seq_is (by kernel_rfl)
  · intro u wx hb hd
    replace hb := hb.nil
    have hz := hb.size
    (try simp only [World.size_alloc, World.size_setCell] at hz)
    have hz0 : w.heap.size < wx.heap.size := by omega
    have hz1 : w.heap.size + 1 < wx.heap.size := by omega
    have hz2 : w.heap.size + 1 + 1 < wx.heap.size := by omega
    obtain ⟨hc, hf⟩ := bcell hb
    clear hb hz
    simp [depsE, Region.binds, updE, kindOf, Prp.is, Prp.any] at hd
    go_simp
    first | exact ⟨Below.refl _ _, rfl⟩ | rfl
  apply seq_is (by kernel_rfl)
  · intro u wx hb hd
    replace hb := hb.nil
    have hz := hb.size
    (try simp only [World.size_alloc, World.size_setCell] at hz)
    have hz0 : w.heap.size < wx.heap.size := by omega
    have hz1 : w.heap.size + 1 < wx.heap.size := by omega
    have hz2 : w.heap.size + 1 + 1 < wx.heap.size := by omega
    obtain ⟨hc, hf⟩ := bcell hb
    clear hb hz
    simp [depsE, Region.binds, updE, kindOf, Prp.is, Prp.any] at hd
    go_simp
    first | exact ⟨Below.refl _ _, rfl⟩ | rfl
  apply seq_is (by kernel_rfl)
  · intro u wx hb hd
    replace hb := hb.nil
    have hz := hb.size
    (try simp only [World.size_alloc, World.size_setCell] at hz)
    have hz0 : w.heap.size < wx.heap.size := by omega
    have hz1 : w.heap.size + 1 < wx.heap.size := by omega
    have hz2 : w.heap.size + 1 + 1 < wx.heap.size := by omega
    obtain ⟨hc, hf⟩ := bcell hb
    clear hb hz
    simp [depsE, Region.binds, updE, kindOf, Prp.is, Prp.any] at hd
    go_simp
    first | exact ⟨Below.refl _ _, rfl⟩ | rfl
  refine seq_var ⟨8, 9, #[.int .u64 0, .int .u64 0, .int .u64 0, .int .u64 0, .int .u64 0, .int .u64 0, .int .u64 0, .int .u64 0], 84⟩ (by simp) rfl ?_ ?_
  · intro u wx hb
    refine ⟨by simp [Region.wanted], ?_⟩
    go_simp
    first | done | rfl | exact ⟨rfl, rfl⟩
  apply seq_sto_agg ⟨8, 9, #[.int .u64 0, .int .u64 0, .int .u64 0, .int .u64 0, .int .u64 0, .int .u64 0, .int .u64 0, .int .u64 0], 84⟩ (by simp) rfl (by kernel_rfl) rfl (by kernel_rfl)
  · intro u wx hb hd
    replace hb := hb.nil
    have hz := hb.size
    (try simp only [World.size_alloc, World.size_setCell] at hz)
    have hz0 : w.heap.size < wx.heap.size := by omega
    have hz1 : w.heap.size + 1 < wx.heap.size := by omega
    have hz2 : w.heap.size + 1 + 1 < wx.heap.size := by omega
    obtain ⟨hc, hf⟩ := bcell hb
    clear hb hz
    simp [depsE, Region.binds, updE, kindOf, Prp.is, Prp.any] at hd
    refine ⟨by simp [Region.wanted], fun b' hub hlb hcells => ?_⟩
    have hub' : u 8 = .pointer (some ⟨b', 0, none⟩) := hub
    have hcells' : wx.heap[b']? = some (.cells #[.int .u64 0, .int .u64 0, .int .u64 0, .int .u64 0, .int .u64 0, .int .u64 0, .int .u64 0, .int .u64 0] 84) := hcells
    have hat := cells_at8 hcells'
    have HCL := Lib.hid hcells'
    clear hcells hcells' hub
    go_simp
    exact Stored.c8 HCL.out _ _ _ _ _ _ _ _
  apply seq_is (by kernel_rfl)
  · intro u wx hb hd
    replace hb := hb.nil
    have hz := hb.size
    (try simp only [World.size_alloc, World.size_setCell] at hz)
    have hz0 : w.heap.size < wx.heap.size := by omega
    have hz1 : w.heap.size + 1 < wx.heap.size := by omega
    have hz2 : w.heap.size + 1 + 1 < wx.heap.size := by omega
    obtain ⟨hc, hf⟩ := bcell hb
    clear hb hz
    simp [depsE, Region.binds, updE, kindOf, Prp.is, Prp.any] at hd
    go_simp
    first | exact ⟨Below.refl _ _, rfl⟩ | rfl
  intro u w5 hb hE hV hP
  replace hb := hb.nil
  clear hP
  have e0 : u 0 = _ := endE_get hE 0 (by decide) (by simp [kindOf])
  have e1 : u 1 = _ := endE_get hE 1 (by decide) (by simp [kindOf])
  have e2 : u 2 = _ := endE_get hE 2 (by decide) (by simp [kindOf])
  have e3 : u 3 = _ := endE_get hE 3 (by decide) (by simp [kindOf])
  have e4 : u 4 = _ := endE_get hE 4 (by decide) (by simp [kindOf])
  have e5 : u 5 = _ := endE_get hE 5 (by decide) (by simp [kindOf])
  have e6 : u 6 = _ := endE_get hE 6 (by decide) (by simp [kindOf])
  have e7 : u 7 = _ := endE_get hE 7 (by decide) (by simp [kindOf])
  have e9 : u 9 = _ := endE_get hE 9 (by decide) (by simp [kindOf])
  have e10 : u 10 = _ := endE_get hE 10 (by decide) (by simp [kindOf])
  obtain ⟨⟨V0, pv0, lv0, qv0⟩, -, -⟩ := hV
  replace qv0 : w5.heap[V0]? = some (.cells (u 9).cells 84) := qv0
  rw [e9] at qv0
  replace pv0 : u 8 = .pointer (some ⟨V0, 0, none⟩) := pv0
  obtain ⟨mV00, mV01, mV02, mV03, mV04, mV05, mV06, mV07, mfV0, msV0⟩ := cells_at8 qv0
  have HQV0 := Lib.hid qv0
  clear qv0
  (try simp only [World.size_alloc, World.size_setCell] at lv0)
  have dV0w50 : V0 ≠ w.heap.size := by omega
  have dV0w51 : V0 ≠ w.heap.size + 1 := by omega
  have dV0w52 : V0 ≠ w.heap.size + 1 + 1 := by omega
  (try have lbV0 : w.heap.size ≤ V0 := by omega)
  clear lv0
  simp only [List.drop_succ_cons, List.drop_zero, List.take_succ_cons, List.take_zero, fillL, Act.put, List.setIfInBounds_toArray, List.set_cons_zero, List.set_cons_succ, e0, e1, e2, e3, e4, e5, e6, e7, e9, e10, pv0]
  clear e0 e1 e2 e3 e4 e5 e6 e7 e9 e10 pv0 hE
  have HBWw5 := Lib.hid hb
  have hw5 := below_step (w := w) (by first | assumption | go_grown) hb
  have hzw5 := hb.size
  (try simp only [World.size_alloc, World.size_setCell] at hzw5)
  have hzw50 : w.heap.size < w5.heap.size := by omega
  have hzw51 : w.heap.size + 1 < w5.heap.size := by omega
  have hzw52 : w.heap.size + 1 + 1 < w5.heap.size := by omega
  have HHw5 := Lib.hid hb.block
  obtain ⟨hcw5, hfw5⟩ := bcell hb
  clear hb hzw5
  go_wp2_with fail
  (go_at_call 57; refine (join_dg NB ((x.natAbs : Int) * y.natAbs) _ HMB.out HLT.out).mono ?_; rintro e_ w6 ⟨rfl, hb⟩)
  rw [HSG.out]
  have hz6 := hb.size
  (try simp only [World.size_alloc, World.size_setCell] at hz6)
  have r0 : w6.cell? ⟨w.heap.size + 1 + 1, 0, none⟩ = some (.bool false) := (hb.cell (p := ⟨_, _, none⟩) (by simp <;> omega)).trans ((HBWw5.out.cell (p := ⟨_, _, none⟩) (by simp <;> omega)).trans (by simp [go_sem]))
  have fr0 : w6.frozen? ⟨w.heap.size + 1 + 1, 0, none⟩ = false := (hb.frozen (p := ⟨_, _, none⟩) (by simp <;> omega)).trans ((HBWw5.out.frozen (p := ⟨_, _, none⟩) (by simp <;> omega)).trans (by simp [go_sem]))
  have r1 : w6.cell? ⟨w.heap.size + 1 + 1, 1, none⟩ = some (.int .u64 0) := (hb.cell (p := ⟨_, _, none⟩) (by simp <;> omega)).trans ((HBWw5.out.cell (p := ⟨_, _, none⟩) (by simp <;> omega)).trans (by simp [go_sem]))
  have fr1 : w6.frozen? ⟨w.heap.size + 1 + 1, 1, none⟩ = false := (hb.frozen (p := ⟨_, _, none⟩) (by simp <;> omega)).trans ((HBWw5.out.frozen (p := ⟨_, _, none⟩) (by simp <;> omega)).trans (by simp [go_sem]))
  have r2 : w6.cell? ⟨w.heap.size + 1 + 1, 2, none⟩ = some (.int .u64 0) := (hb.cell (p := ⟨_, _, none⟩) (by simp <;> omega)).trans ((HBWw5.out.cell (p := ⟨_, _, none⟩) (by simp <;> omega)).trans (by simp [go_sem]))
  have fr2 : w6.frozen? ⟨w.heap.size + 1 + 1, 2, none⟩ = false := (hb.frozen (p := ⟨_, _, none⟩) (by simp <;> omega)).trans ((HBWw5.out.frozen (p := ⟨_, _, none⟩) (by simp <;> omega)).trans (by simp [go_sem]))
  have r3 : w6.cell? ⟨w.heap.size + 1 + 1, 3, none⟩ = some (.int .u64 0) := (hb.cell (p := ⟨_, _, none⟩) (by simp <;> omega)).trans ((HBWw5.out.cell (p := ⟨_, _, none⟩) (by simp <;> omega)).trans (by simp [go_sem]))
  have fr3 : w6.frozen? ⟨w.heap.size + 1 + 1, 3, none⟩ = false := (hb.frozen (p := ⟨_, _, none⟩) (by simp <;> omega)).trans ((HBWw5.out.frozen (p := ⟨_, _, none⟩) (by simp <;> omega)).trans (by simp [go_sem]))
  have r4 : w6.cell? ⟨w.heap.size + 1 + 1, 4, none⟩ = some (.int .u64 0) := (hb.cell (p := ⟨_, _, none⟩) (by simp <;> omega)).trans ((HBWw5.out.cell (p := ⟨_, _, none⟩) (by simp <;> omega)).trans (by simp [go_sem]))
  have fr4 : w6.frozen? ⟨w.heap.size + 1 + 1, 4, none⟩ = false := (hb.frozen (p := ⟨_, _, none⟩) (by simp <;> omega)).trans ((HBWw5.out.frozen (p := ⟨_, _, none⟩) (by simp <;> omega)).trans (by simp [go_sem]))
  have hB6 : Below w.heap.size w w6 := below_step (w := w) (by go_grown) hb
  clear hb
  go_wp2
  all_goals (refine bodyPost_ret (v := .tuple #[.agg #[.bool SG, .int .u64 ((joinF (dgF 4294967296 ((x.natAbs : Int) * y.natAbs))) 0), .int .u64 ((joinF (dgF 4294967296 ((x.natAbs : Int) * y.natAbs))) 1), .int .u64 ((joinF (dgF 4294967296 ((x.natAbs : Int) * y.natAbs))) 2), .int .u64 ((joinF (dgF 4294967296 ((x.natAbs : Int) * y.natAbs))) 3)], .int .i64 0]) (by simp (maxDischargeDepth := 9) [results, Try.results61, go_sem, *]) rfl ?_)
  refine ⟨joinF (dgF 4294967296 ((x.natAbs : Int) * y.natAbs)), rfl, ?_, by go_grown⟩
  have h := isW_sg (n := NB) (join_dig (n := 4) (dg_is HMB.out HLT.out).1) ((join_val _ 4).trans (dg_is HMB.out HLT.out).2)
  rwa [HSG.out, HNM.out] at h
end Go.Proofs.Ytpjdmjmgkdgfnaa
