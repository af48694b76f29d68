/-
  math/bits.Mul64 and the program's Mul, by walks. Conditions: none. By an AI agent.
-/
import Derived.Test.YtpjdmjmgkdgfnaaWideA
import Derived.Laws.Cover3
namespace Go.Proofs.Ytpjdmjmgkdgfnaa
open Go Go.RowKit Go.Shelf
set_option linter.unusedVariables false
set_option linter.unusedSimpArgs false
set_option maxRecDepth 100000

theorem mul_step {B v8 vx vy vq xj yq n l3 cn cc pj pq pjq : Int} (h1 : v8 + cc * pjq = vx * vy + xj * vq * pj) (h5 : pjq = pj * pq) (h6 : l3 + cn * B = xj * yq + n + cc) : v8 + (l3 - n) * pjq + cn * (pjq * B) = vx * vy + xj * (vq + yq * pq) * pj := by
  subst h5
  grind
theorem mul_end {v8 vx vy xj cc pj p : Int} (h1 : v8 + cc * p = vx * vy + xj * vy * pj) : v8 + (cc - 0) * p = (vx + xj * pj) * vy := by grind
theorem mul_sign {x y : Int} {bx by' : Bool} {X Y : Nat → Int} (hx : isW x bx X) (hy : isW y by' Y) : (if (bx != by') = true then -(valN 18446744073709551616 X 4 * valN 18446744073709551616 Y 4) else valN 18446744073709551616 X 4 * valN 18446744073709551616 Y 4) = x * y := by
  rw [hx.2.2, hy.2.2]
  have h1 := hx.1
  have h2 := hy.1
  have a1 : bx = true → (x.natAbs : Int) = -x := fun h => by rw [h] at h1; have := of_decide_eq_true h1.symm; omega
  have a2 : bx = false → (x.natAbs : Int) = x := fun h => by rw [h] at h1; have := of_decide_eq_false h1.symm; omega
  have b1 : by' = true → (y.natAbs : Int) = -y := fun h => by rw [h] at h2; have := of_decide_eq_true h2.symm; omega
  have b2 : by' = false → (y.natAbs : Int) = y := fun h => by rw [h] at h2; have := of_decide_eq_false h2.symm; omega
  cases bx <;> cases by' <;> simp [a1, a2, b1, b2, Int.neg_mul, Int.mul_neg]
theorem idx4_0 (X : Nat → Int) (W : World) : (Instr.index 31 (.agg #[.int .u64 (X 0), .int .u64 (X 1), .int .u64 (X 2), .int .u64 (X 3)]) (.int .i64 0)).run Try.prog W = .ok (.int .u64 (X 0)) W := by kernel_rfl
theorem idx4_1 (X : Nat → Int) (W : World) : (Instr.index 31 (.agg #[.int .u64 (X 0), .int .u64 (X 1), .int .u64 (X 2), .int .u64 (X 3)]) (.int .i64 1)).run Try.prog W = .ok (.int .u64 (X 1)) W := by kernel_rfl
theorem idx4_2 (X : Nat → Int) (W : World) : (Instr.index 31 (.agg #[.int .u64 (X 0), .int .u64 (X 1), .int .u64 (X 2), .int .u64 (X 3)]) (.int .i64 2)).run Try.prog W = .ok (.int .u64 (X 2)) W := by kernel_rfl
theorem idx4_3 (X : Nat → Int) (W : World) : (Instr.index 31 (.agg #[.int .u64 (X 0), .int .u64 (X 1), .int .u64 (X 2), .int .u64 (X 3)]) (.int .i64 3)).run Try.prog W = .ok (.int .u64 (X 3)) W := by kernel_rfl
theorem idx4 (X : Nat → Int) (j : Nat) (h : j < 4) : ∀ W, (Instr.index 31 (.agg #[.int .u64 (X 0), .int .u64 (X 1), .int .u64 (X 2), .int .u64 (X 3)]) (.int .i64 (j : Int))).run Try.prog W = .ok (.int .u64 (X j)) W := fun W => by
  match j, h with
  | 0, _ => exact idx4_0 X W
  | 1, _ => exact idx4_1 X W
  | 2, _ => exact idx4_2 X W
  | 3, _ => exact idx4_3 X W
namespace Mul64
theorem maskN (a : Nat) (ha : a < 18446744073709551616) : bits .and .u64 (a : Int) 4294967295 = ((a % 4294967296 : Nat) : Int) := by
  have h := bits_and_u64_nat a 4294967295 ha (by omega)
  have e : a &&& 4294967295 = a % 4294967296 := Nat.and_two_pow_sub_one_eq_mod a 32
  rw [e] at h
  exact h
theorem divN (a : Nat) : (a : Int) / 4294967296 = ((a / 4294967296 : Nat) : Int) := by omega
theorem mulN (a b : Nat) : (a : Int) * (b : Int) = ((a * b : Nat) : Int) := (Int.natCast_mul a b).symm
theorem addN (a b : Nat) : (a : Int) + (b : Int) = ((a + b : Nat) : Int) := (Int.natCast_add a b).symm
theorem wrapN (a : Nat) (ha : a < 18446744073709551616) : IntKind.u64.wrap (a : Int) = (a : Int) := by rw [IntKind.wrap_u64]; omega
theorem wrapM (a : Nat) : IntKind.u64.wrap (a : Int) = ((a % 18446744073709551616 : Nat) : Int) := by rw [IntKind.wrap_u64]; omega
end Mul64
set_option maxHeartbeats 1000000 in
theorem mul64_nat (x y : Nat) (hx : x < 18446744073709551616) (hy : y < 18446744073709551616) (w : World) :
    Calls Try.prog 70 #[.int .u64 x, .int .u64 y] w fun e w' => e = .returned (.tuple #[.int .u64 ((x * y / 18446744073709551616 : Nat) : Int), .int .u64 ((x * y % 18446744073709551616 : Nat) : Int)]) ∧ w' = w := by
  obtain ⟨bd, bt, bw, hhi⟩ := Lib.mul64_hi x y hx hy
  have ba := Lib.half_mul_le (a := x / 4294967296) (b := y / 4294967296) (by omega) (by omega)
  have bb := Lib.half_mul_le (a := x / 4294967296) (b := y % 4294967296) (by omega) (by omega)
  have bc := Lib.half_mul_le (a := x % 4294967296) (b := y / 4294967296) (by omega) (by omega)
  have ba' : x / 4294967296 * (y / 4294967296) < 18446744073709551616 := by omega
  have bb' : x / 4294967296 * (y % 4294967296) < 18446744073709551616 := by omega
  have bc' : x % 4294967296 * (y / 4294967296) < 18446744073709551616 := by omega
  have bh1 : x / 4294967296 * (y / 4294967296) + (x / 4294967296 * (y % 4294967296) + x % 4294967296 * (y % 4294967296) / 4294967296) / 4294967296 < 18446744073709551616 := by omega
  have bh : x / 4294967296 * (y / 4294967296) + (x / 4294967296 * (y % 4294967296) + x % 4294967296 * (y % 4294967296) / 4294967296) / 4294967296 + ((x / 4294967296 * (y % 4294967296) + x % 4294967296 * (y % 4294967296) / 4294967296) % 4294967296 + x % 4294967296 * (y / 4294967296)) / 4294967296 < 18446744073709551616 := by omega
  go_enter Try.func70, Try.ntmps70
  go_wp2
  simp only [Mul64.maskN x hx, Mul64.maskN y hy, Mul64.divN, Mul64.mulN, Mul64.addN, Mul64.wrapN _ bd, Mul64.wrapN _ bb', Mul64.wrapN _ bt, Mul64.maskN _ bt, Mul64.wrapN _ bc', Mul64.wrapN _ bw, Mul64.wrapN _ ba', Mul64.wrapN _ bh1, Mul64.wrapN _ bh, Mul64.wrapM (x * y)]
  rw [hhi]
  go_ret2
  exact ⟨rfl, rfl⟩
theorem mul64_any (x y : Int) (w : World) (hx : 0 ≤ x ∧ x < 18446744073709551616) (hy : 0 ≤ y ∧ y < 18446744073709551616) :
    Calls Try.prog 70 #[.int .u64 x, .int .u64 y] w fun e w' => ∃ hi lo : Int, e = .returned (.tuple #[.int .u64 hi, .int .u64 lo]) ∧ 0 ≤ hi ∧ (0 ≤ lo ∧ lo < 18446744073709551616) ∧ lo + hi * 18446744073709551616 = x * y ∧ w' = w := by
  obtain ⟨x, rfl⟩ := Int.eq_ofNat_of_zero_le hx.1
  obtain ⟨y, rfl⟩ := Int.eq_ofNat_of_zero_le hy.1
  refine (mul64_nat x y (by omega) (by omega) w).mono ?_
  rintro e w' ⟨rfl, hw⟩
  have h := Int.natCast_mul x y
  refine ⟨_, _, rfl, by omega, by omega, ?_, hw⟩
  rw [← h]
  omega
set_option maxHeartbeats 16000000 in
theorem Mul_any (x y : Int) (bx by' : Bool) (X Y : Nat → Int) (w : World) (hx : isW x bx X) (hy : isW y by' Y) (hs : ((x * y).natAbs : Int) < 115792089237316195423570985008687907853269984665640564039457584007913129639936) :
    Calls Try.prog 50 #[.agg #[.bool bx, .int .u64 (X 0), .int .u64 (X 1), .int .u64 (X 2), .int .u64 (X 3)], .agg #[.bool by', .int .u64 (Y 0), .int .u64 (Y 1), .int .u64 (Y 2), .int .u64 (Y 3)]] w fun e w' => ∃ Z : Nat → Int, e = .returned (.tuple #[.agg #[.bool (decide (x * y < 0)), .int .u64 (Z 0), .int .u64 (Z 1), .int .u64 (Z 2), .int .u64 (Z 3)], .int .i64 0]) ∧ isW (x * y) (decide (x * y < 0)) Z ∧ Below w.heap.size w w' := by
  obtain ⟨NB, hNB⟩ : ∃ b, (bx != by') = b := ⟨_, rfl⟩
  obtain ⟨SG, hSG⟩ : ∃ b, decide (x * y < 0) = b := ⟨_, rfl⟩
  have hms := mul_sign hx hy
  rw [hNB] at hms
  have HNM := Lib.hid hms
  have HNE : Hid (∀ W, (binOp .neq 4 (.bool bx) (.bool by')).run Try.prog W = .ok (.bool NB) W) := by
    show ∀ W, _
    intro W
    rw [← hNB]
    cases bx <;> cases by' <;> kernel_rfl
  have HSG0 : Hid (sgB NB (valN 18446744073709551616 X 4 * valN 18446744073709551616 Y 4) = SG) := by
    show _ = _
    unfold sgB
    rw [hms]
    exact hSG
  have HLT : Hid (valN 18446744073709551616 X 4 * valN 18446744073709551616 Y 4 < 115792089237316195423570985008687907853269984665640564039457584007913129639936) := by
    show _ < _
    rw [hx.2.2, hy.2.2, ← Int.natCast_mul, ← Int.natAbs_mul]
    exact hs
  have HDX := Lib.hid hx.2.1
  have HDY := Lib.hid hy.2.1
  rw [hSG]
  clear hms hNB hSG hx hy hs
  go_enter Try.func50, Try.ntmps50
  go_wp2
  go_loopw [17] (fun i wr => ∃ (j : Nat) (M : Nat → Int), j ≤ 4 ∧ i = .int .i64 j ∧ dig 18446744073709551616 8 M ∧ (∀ p, j + 4 ≤ p → p < 8 → M p = 0) ∧ valN 18446744073709551616 M 8 = valN 18446744073709551616 X j * valN 18446744073709551616 Y 4 ∧ DigAt wr (w.heap.size + 1 + 1 + 1) 8 M ∧ FreeAt wr (w.heap.size + 1 + 1 + 1) 8 ∧ (w.heap.size + 1 + 1 + 1) < wr.heap.size ∧ Below (((w.alloc (.cells #[.bool bx, .int .u64 (X 0), .int .u64 (X 1), .int .u64 (X 2), .int .u64 (X 3)] 33)).alloc (.cells #[.bool by', .int .u64 (Y 0), .int .u64 (Y 1), .int .u64 (Y 2), .int .u64 (Y 3)] 33)).alloc (.cells #[.bool false, .int .u64 0, .int .u64 0, .int .u64 0, .int .u64 0] 33)).heap.size (((w.alloc (.cells #[.bool bx, .int .u64 (X 0), .int .u64 (X 1), .int .u64 (X 2), .int .u64 (X 3)] 33)).alloc (.cells #[.bool by', .int .u64 (Y 0), .int .u64 (Y 1), .int .u64 (Y 2), .int .u64 (Y 3)] 33)).alloc (.cells #[.bool false, .int .u64 0, .int .u64 0, .int .u64 0, .int .u64 0] 33)) wr) (fun i _ => 4 - (intOf i).toNat)
  case atStart =>
    refine ⟨0, zeroF, by omega, rfl, fun k hk => by unfold zeroF; omega, fun p _ _ => rfl, ?_, ?_, ?_, by simp <;> omega, by go_grown⟩
    · rw [show valN 18446744073709551616 X 0 = 0 from rfl, Int.zero_mul]
      exact valN_zero fun k hk => rfl
    · intro k hk
      match k, hk with
      | 0, _ => simp [go_sem, zeroF]
      | 1, _ => simp [go_sem, zeroF]
      | 2, _ => simp [go_sem, zeroF]
      | 3, _ => simp [go_sem, zeroF]
      | 4, _ => simp [go_sem, zeroF]
      | 5, _ => simp [go_sem, zeroF]
      | 6, _ => simp [go_sem, zeroF]
      | 7, _ => simp [go_sem, zeroF]
    · intro k hk
      match k, hk with
      | 0, _ => simp [go_sem]
      | 1, _ => simp [go_sem]
      | 2, _ => simp [go_sem]
      | 3, _ => simp [go_sem]
      | 4, _ => simp [go_sem]
      | 5, _ => simp [go_sem]
      | 6, _ => simp [go_sem]
      | 7, _ => simp [go_sem]
  case round =>
    obtain ⟨j, M, hj, rfl, hd, hz, he, hA, hF, z3, hB⟩ := hrel
    have HB0 := Lib.hid hB
    have HD := Lib.hid hd
    have HZ := Lib.hid hz
    have HE := Lib.hid he
    have HA := Lib.hid hA
    have HF := Lib.hid hF
    have z0 : w.heap.size < wr.heap.size := by omega
    clear hd hz he hA hF hB
    by_cases hlt : j < 4
    · have hix := idx4 X j hlt
      have kj : decide ((j : Int) < 4) = true := decide_eq_true (by omega)
      have b0 : wr.cell? ⟨w.heap.size + 1, 0, none⟩ = some (.bool by') := (HB0.out.cell (p := ⟨_, _, none⟩) (by simp <;> omega)).trans (by simp [go_sem])
      have b1 : wr.cell? ⟨w.heap.size + 1, 1, none⟩ = some (.int .u64 (Y 0)) := (HB0.out.cell (p := ⟨_, _, none⟩) (by simp <;> omega)).trans (by simp [go_sem])
      have b2 : wr.cell? ⟨w.heap.size + 1, 2, none⟩ = some (.int .u64 (Y 1)) := (HB0.out.cell (p := ⟨_, _, none⟩) (by simp <;> omega)).trans (by simp [go_sem])
      have b3 : wr.cell? ⟨w.heap.size + 1, 3, none⟩ = some (.int .u64 (Y 2)) := (HB0.out.cell (p := ⟨_, _, none⟩) (by simp <;> omega)).trans (by simp [go_sem])
      have b4 : wr.cell? ⟨w.heap.size + 1, 4, none⟩ = some (.int .u64 (Y 3)) := (HB0.out.cell (p := ⟨_, _, none⟩) (by simp <;> omega)).trans (by simp [go_sem])
      go_wp2
      go_loopw [9, 23] (fun c k wr => ∃ (q : Nat) (M : Nat → Int) (cc : Int), q ≤ 4 ∧ c = .int .u64 cc ∧ k = .int .i64 q ∧ (0 ≤ cc ∧ cc < 18446744073709551616) ∧ dig 18446744073709551616 8 M ∧ (∀ p, j + 4 ≤ p → p < 8 → M p = 0) ∧ valN 18446744073709551616 M 8 + cc * pw 18446744073709551616 (j + q) = valN 18446744073709551616 X j * valN 18446744073709551616 Y 4 + X j * valN 18446744073709551616 Y q * pw 18446744073709551616 j ∧ DigAt wr (w.heap.size + 1 + 1 + 1) 8 M ∧ FreeAt wr (w.heap.size + 1 + 1 + 1) 8 ∧ (w.heap.size + 1 + 1 + 1) < wr.heap.size ∧ Below (((w.alloc (.cells #[.bool bx, .int .u64 (X 0), .int .u64 (X 1), .int .u64 (X 2), .int .u64 (X 3)] 33)).alloc (.cells #[.bool by', .int .u64 (Y 0), .int .u64 (Y 1), .int .u64 (Y 2), .int .u64 (Y 3)] 33)).alloc (.cells #[.bool false, .int .u64 0, .int .u64 0, .int .u64 0, .int .u64 0] 33)).heap.size (((w.alloc (.cells #[.bool bx, .int .u64 (X 0), .int .u64 (X 1), .int .u64 (X 2), .int .u64 (X 3)] 33)).alloc (.cells #[.bool by', .int .u64 (Y 0), .int .u64 (Y 1), .int .u64 (Y 2), .int .u64 (Y 3)] 33)).alloc (.cells #[.bool false, .int .u64 0, .int .u64 0, .int .u64 0, .int .u64 0] 33)) wr) (fun _ k _ => 4 - (intOf k).toNat)
      case atStart =>
        refine ⟨0, M, 0, by omega, rfl, rfl, by decide, HD.out, HZ.out, ?_, HA.out, HF.out, z3, HB0.out⟩
        rw [HE.out, show valN 18446744073709551616 Y 0 = 0 from rfl]
        simp
      case round =>
        clear HB0 HD HZ HE HA HF z3 z0
        obtain ⟨q, N, cc, hq, rfl, rfl, hcc, hd, hz, he, hA, hF, z3, hB⟩ := hrel
        have HB0 := Lib.hid hB
        have HD := Lib.hid hd
        have HZ := Lib.hid hz
        have HE := Lib.hid he
        have HA := Lib.hid hA
        have HF := Lib.hid hF
        have HC := Lib.hid hcc
        have z0 : w.heap.size < wr.heap.size := by omega
        clear hd hz he hA hF hB
        by_cases hql : q < 4
        · have cm := HA.out (j + q) (by omega)
          have fm := HF.out (j + q) (by omega)
          have hjq : IntKind.i64.wrap ((j : Int) + (q : Int)) = ((j + q : Nat) : Int) := by rw [IntWalk.i64_in _ (by omega)]; omega
          have k0 : (0 : Int) ≤ ((j + q : Nat) : Int) := by omega
          have k1 : ((j + q : Nat) : Int) < 8 := by omega
          have kq : decide ((q : Int) < 4) = true := decide_eq_true (by omega)
          have hix := idx4 Y q hql
          have HXJ := Lib.hid (HDX.out j hlt)
          have HYQ := Lib.hid (HDY.out q hql)
          clear hcc
          go_wp2_with fail
          (go_at_call 70; refine (mul64_any (X j) (Y q) _ HXJ.out HYQ.out).mono ?_; rintro e_ w_ ⟨hi, lo, rfl, hhi, hlo, hml, hw_⟩)
          subst hw_
          obtain ⟨l2, c1, hl2, hc1, hq1, hadd1⟩ := add64_has lo (N (j + q)) 0 hlo (HD.out (j + q) (by omega)) (by decide)
          obtain ⟨l3, c2, hl3, hc2, hq2, hadd2⟩ := add64_has l2 cc 0 hl2 HC.out (by decide)
          have hbig : hi + c1 + c2 < 18446744073709551616 := by
            have h1 := HXJ.out
            have h2 := HYQ.out
            have h3 := HC.out
            have h4 := HD.out (j + q) (by omega)
            have h5 : X j * Y q ≤ (18446744073709551616 - 1) * (18446744073709551616 - 1) := Int.mul_le_mul (by omega) (by omega) h2.1 (by omega)
            omega
          have HBIG := Lib.hid hbig
          have hw1 : IntKind.u64.wrap (hi + c1) = hi + c1 := by rw [IntKind.wrap_u64]; omega
          have hw2 : IntKind.u64.wrap (hi + c1 + c2) = hi + c1 + c2 := by rw [IntKind.wrap_u64]; omega
          have HML := Lib.hid hml
          have HQ1 := Lib.hid hq1
          have HQ2 := Lib.hid hq2
          have HL3 := Lib.hid hl3
          have HHI := Lib.hid hhi
          have HC1 := Lib.hid hc1
          have HC2 := Lib.hid hc2
          clear hml hq1 hq2 hl3 hl2 hhi hlo hc1 hc2 hbig
          go_wp2
          go_roundw
          case rel =>
            refine ⟨q + 1, updF N (j + q) l3, hi + c1 + c2, by omega, rfl, by go_num, ⟨by have := HHI.out; have := HC1.out; have := HC2.out; omega, HBIG.out⟩, ?_, ?_, ?_, HA.out.upd (by omega), fun p hp => by rw [World.frozen?_setCell]; exact HF.out p hp, by simpa using z3, HB0.out.setCell (by simp <;> omega) _⟩
            · intro p hp
              unfold updF
              split
              · exact HL3.out
              · exact HD.out p hp
            · intro p hp hp2
              unfold updF
              rw [if_neg (by omega)]
              exact HZ.out p hp hp2
            · have h1 := HE.out
              have h2 := HML.out
              have h3 := HQ1.out
              have h4 := HQ2.out
              rw [valN_upd (by omega : j + q < 8), valN, ← Nat.add_assoc, pw]
              have h5 : pw 18446744073709551616 (j + q) = pw 18446744073709551616 j * pw 18446744073709551616 q := pw_add _ _ _
              have h6 : l3 + (hi + c1 + c2) * 18446744073709551616 = X j * Y q + N (j + q) + cc := by omega
              exact mul_step h1 h5 h6
          case measure => simp [intOf]; omega
        · have hq4 : q = 4 := by omega
          subst hq4
          have cm := HA.out (j + 4) (by omega)
          have fm := HF.out (j + 4) (by omega)
          have hjq : IntKind.i64.wrap ((j : Int) + 4) = ((j + 4 : Nat) : Int) := by rw [IntWalk.i64_in _ (by omega)]; omega
          have k0 : (0 : Int) ≤ ((j + 4 : Nat) : Int) := by omega
          have k1 : ((j + 4 : Nat) : Int) < 8 := by omega
          clear hcc
          go_wp2
          go_roundw
          case rel =>
            refine ⟨j + 1, updF N (j + 4) cc, by omega, by go_num, ?_, ?_, ?_, HA.out.upd (by omega), fun p hp => by rw [World.frozen?_setCell]; exact HF.out p hp, by simpa using z3, HB0.out.setCell (by simp <;> omega) _⟩
            · intro p hp
              unfold updF
              split
              · exact HC.out
              · exact HD.out p hp
            · intro p hp hp2
              unfold updF
              rw [if_neg (by omega)]
              exact HZ.out p (by omega) hp2
            · have h1 := HE.out
              have h2 := HZ.out (j + 4) (by omega) (by omega)
              rw [valN_upd (by omega : j + 4 < 8), h2, valN]
              exact mul_end h1
          case measure => simp [intOf]; omega
    · obtain rfl : j = 4 := by omega
      have HMS : Hid (dig 18446744073709551616 4 M ∧ valN 18446744073709551616 M 4 = valN 18446744073709551616 X 4 * valN 18446744073709551616 Y 4 ∧ M 4 = 0 ∧ M 5 = 0 ∧ M 6 = 0 ∧ M 7 = 0) := by
        have h1 := HE.out
        have h2 := HLT.out
        have h3 := HD.out
        have d4 := h3 4 (by decide)
        have d5 := h3 5 (by decide)
        have d6 := h3 6 (by decide)
        have d7 := h3 7 (by decide)
        have hb := valN_bd (n := 4) (by decide) (fun k hk => h3 k (by omega))
        have e8 : valN 18446744073709551616 M 8 = valN 18446744073709551616 M 4 + M 4 * pw 18446744073709551616 4 + M 5 * pw 18446744073709551616 5 + M 6 * pw 18446744073709551616 6 + M 7 * pw 18446744073709551616 7 := by simp only [valN]
        rw [show pw 18446744073709551616 5 = pw 18446744073709551616 4 * 18446744073709551616 from rfl, show pw 18446744073709551616 6 = pw 18446744073709551616 4 * 18446744073709551616 * 18446744073709551616 from rfl, show pw 18446744073709551616 7 = pw 18446744073709551616 4 * 18446744073709551616 * 18446744073709551616 * 18446744073709551616 from rfl, pw4] at e8
        rw [pw4] at hb
        have q4 : M 4 = 0 := by omega
        have q5 : M 5 = 0 := by omega
        have q6 : M 6 = 0 := by omega
        have q7 : M 7 = 0 := by omega
        exact ⟨fun k hk => h3 k (by omega), by rw [q4, q5, q6, q7] at e8; omega, q4, q5, q6, q7⟩
      have m0 : wr.cell? ⟨(w.heap.size + 1 + 1 + 1), 0, none⟩ = some (.int .u64 (M 0)) := HA.out 0 (by decide)
      have m1 : wr.cell? ⟨(w.heap.size + 1 + 1 + 1), 1, none⟩ = some (.int .u64 (M 1)) := HA.out 1 (by decide)
      have m2 : wr.cell? ⟨(w.heap.size + 1 + 1 + 1), 2, none⟩ = some (.int .u64 (M 2)) := HA.out 2 (by decide)
      have m3 : wr.cell? ⟨(w.heap.size + 1 + 1 + 1), 3, none⟩ = some (.int .u64 (M 3)) := HA.out 3 (by decide)
      have m4 : wr.cell? ⟨(w.heap.size + 1 + 1 + 1), 4, none⟩ = some (.int .u64 (0)) := (HA.out 4 (by decide)).trans (by rw [HMS.out.2.2.1])
      have m5 : wr.cell? ⟨(w.heap.size + 1 + 1 + 1), 5, none⟩ = some (.int .u64 (0)) := (HA.out 5 (by decide)).trans (by rw [HMS.out.2.2.2.1])
      have m6 : wr.cell? ⟨(w.heap.size + 1 + 1 + 1), 6, none⟩ = some (.int .u64 (0)) := (HA.out 6 (by decide)).trans (by rw [HMS.out.2.2.2.2.1])
      have m7 : wr.cell? ⟨(w.heap.size + 1 + 1 + 1), 7, none⟩ = some (.int .u64 (0)) := (HA.out 7 (by decide)).trans (by rw [HMS.out.2.2.2.2.2])
      have a0 : wr.cell? ⟨w.heap.size, 0, none⟩ = some (.bool bx) := (HB0.out.cell (p := ⟨_, _, none⟩) (by simp <;> omega)).trans (by simp [go_sem])
      have b0 : wr.cell? ⟨w.heap.size + 1, 0, none⟩ = some (.bool by') := (HB0.out.cell (p := ⟨_, _, none⟩) (by simp <;> omega)).trans (by simp [go_sem])
      have r0 : wr.cell? ⟨w.heap.size + 1 + 1, 0, none⟩ = some (.bool false) := (HB0.out.cell (p := ⟨_, _, none⟩) (by simp <;> omega)).trans (by simp [go_sem])
      have fr0 : wr.frozen? ⟨w.heap.size + 1 + 1, 0, none⟩ = false := (HB0.out.frozen (p := ⟨_, _, none⟩) (by simp <;> omega)).trans (by simp [go_sem])
      have r1 : wr.cell? ⟨w.heap.size + 1 + 1, 1, none⟩ = some (.int .u64 0) := (HB0.out.cell (p := ⟨_, _, none⟩) (by simp <;> omega)).trans (by simp [go_sem])
      have fr1 : wr.frozen? ⟨w.heap.size + 1 + 1, 1, none⟩ = false := (HB0.out.frozen (p := ⟨_, _, none⟩) (by simp <;> omega)).trans (by simp [go_sem])
      have r2 : wr.cell? ⟨w.heap.size + 1 + 1, 2, none⟩ = some (.int .u64 0) := (HB0.out.cell (p := ⟨_, _, none⟩) (by simp <;> omega)).trans (by simp [go_sem])
      have fr2 : wr.frozen? ⟨w.heap.size + 1 + 1, 2, none⟩ = false := (HB0.out.frozen (p := ⟨_, _, none⟩) (by simp <;> omega)).trans (by simp [go_sem])
      have r3 : wr.cell? ⟨w.heap.size + 1 + 1, 3, none⟩ = some (.int .u64 0) := (HB0.out.cell (p := ⟨_, _, none⟩) (by simp <;> omega)).trans (by simp [go_sem])
      have fr3 : wr.frozen? ⟨w.heap.size + 1 + 1, 3, none⟩ = false := (HB0.out.frozen (p := ⟨_, _, none⟩) (by simp <;> omega)).trans (by simp [go_sem])
      have r4 : wr.cell? ⟨w.heap.size + 1 + 1, 4, none⟩ = some (.int .u64 0) := (HB0.out.cell (p := ⟨_, _, none⟩) (by simp <;> omega)).trans (by simp [go_sem])
      have fr4 : wr.frozen? ⟨w.heap.size + 1 + 1, 4, none⟩ = false := (HB0.out.frozen (p := ⟨_, _, none⟩) (by simp <;> omega)).trans (by simp [go_sem])
      have z1 : w.heap.size + 1 < wr.heap.size := by omega
      have z2 : w.heap.size + 1 + 1 < wr.heap.size := by omega
      have hzz : ∀ W, (binOp .neq 31 (.agg #[.int .u64 0, .int .u64 0, .int .u64 0, .int .u64 0]) (.agg #[.int .u64 0, .int .u64 0, .int .u64 0, .int .u64 0])).run Try.prog W = .ok (.bool false) W := fun W => mag_nz (X := zeroF) (n := 0) (fun k hk => by unfold zeroF; omega) (by decide) W
      have har1 : ∀ W, (Instr.arrayAt 31 (.slice (some ⟨(w.heap.size + 1 + 1 + 1), 4, none⟩) 4 4)).run Try.prog W = .ok (.pointer (some ⟨(w.heap.size + 1 + 1 + 1), 4, none⟩)) W := fun W => run_arrayAt W 31 30 4 _ 4 4 (by kernel_rfl) (by decide)
      have har2 : ∀ W, (Instr.arrayAt 31 (.slice (some ⟨(w.heap.size + 1 + 1 + 1), 0, none⟩) 4 8)).run Try.prog W = .ok (.pointer (some ⟨(w.heap.size + 1 + 1 + 1), 0, none⟩)) W := fun W => run_arrayAt W 31 30 4 _ 4 8 (by kernel_rfl) (by decide)
      have hne : ∀ W, (binOp .neq 4 (.bool bx) (.bool by')).run Try.prog W = .ok (.bool NB) W := HNE.out
      have HBW : Hid (Below w.heap.size w wr) := by
        show Below _ _ _
        exact below_step (w := w) (by go_grown) HB0.out
      have HSG : Hid (sgB NB (valN 18446744073709551616 M 4) = SG) := by
        show _ = _
        rw [HMS.out.2.1]
        exact HSG0.out
      go_wp2_with fail
      refine wp_region_relw 9 (by kernel_rfl) (by kernel_rfl) (by kernel_rfl) ?_
      simp only [List.take_succ_cons, List.take_zero, fillL, Act.put, List.setIfInBounds_toArray, List.set_cons_zero, List.set_cons_succ]
      iterate 8
        apply rel_is
        · intro u wx hb hd
          have hz := hb.size
          (try simp only [World.size_alloc, World.size_setCell] at hz)
          have hz0 : w.heap.size < wx.heap.size := by omega
          have hz1 : w.heap.size + 1 < wx.heap.size := by omega
          have hz2 : w.heap.size + 1 + 1 < wx.heap.size := by omega
          have hz3 : w.heap.size + 1 + 1 + 1 < wx.heap.size := by omega
          obtain ⟨hc, hf⟩ := bcell hb
          have HBX := Lib.hid hb
          clear hb hz
          simp [depsS, Region.binds, updS, Stay.is, Stay.any] at hd
          go_simp
          first | exact ⟨Below.refl _ _, rfl⟩ | rfl
      apply rel_is
      · intro u wx hb hd
        have hz := hb.size
        (try simp only [World.size_alloc, World.size_setCell] at hz)
        have hz0 : w.heap.size < wx.heap.size := by omega
        have hz1 : w.heap.size + 1 < wx.heap.size := by omega
        have hz2 : w.heap.size + 1 + 1 < wx.heap.size := by omega
        have hz3 : w.heap.size + 1 + 1 + 1 < wx.heap.size := by omega
        obtain ⟨hc, hf⟩ := bcell hb
        have HBX := Lib.hid hb
        clear hb hz
        simp [depsS, Region.binds, updS, Stay.is, Stay.any] at hd
        go_simp
        first | rfl | (go_at_call 52; refine (signed_any NB _ M _ HMS.out.1 rfl).mono ?_; rintro e w1 ⟨rfl, hb1⟩; rw [HSG.out]; first | exact ⟨rfl, hb1⟩ | exact ⟨_, rfl, hb1, rfl⟩)
      intro u w5 hb hE
      have e0 : u 0 = _ := endS_get hE 0 (by decide)
      have e1 : u 1 = _ := endS_get hE 1 (by decide)
      have e2 : u 2 = _ := endS_get hE 2 (by decide)
      have e3 : u 3 = _ := endS_get hE 3 (by decide)
      have e4 : u 4 = _ := endS_get hE 4 (by decide)
      have e5 : u 5 = _ := endS_get hE 5 (by decide)
      have e6 : u 6 = _ := endS_get hE 6 (by decide)
      have e7 : u 7 = _ := endS_get hE 7 (by decide)
      have e8 : u 8 = _ := endS_get hE 8 (by decide)
      simp only [List.drop_succ_cons, List.drop_zero, List.take_succ_cons, List.take_zero, fillL, Act.put, List.setIfInBounds_toArray, List.set_cons_zero, List.set_cons_succ, e0, e1, e2, e3, e4, e5, e6, e7, e8]
      clear e0 e1 e2 e3 e4 e5 e6 e7 e8 hE
      have HBw5 := Lib.hid (below_step (w := wr) (by first | assumption | go_grown) hb)
      have HBXw5 := Lib.hid hb
      have hzw5 := hb.size
      (try simp only [World.size_alloc, World.size_setCell] at hzw5)
      have hzw50 : w.heap.size < w5.heap.size := by omega
      have hzw51 : w.heap.size + 1 < w5.heap.size := by omega
      have hzw52 : w.heap.size + 1 + 1 < w5.heap.size := by omega
      have hzw53 : w.heap.size + 1 + 1 + 1 < w5.heap.size := by omega
      obtain ⟨hcw5, hfw5⟩ := bcell hb
      clear hb hzw5
      have HBV : Hid (Below w.heap.size w w5) := below_step HBW.out HBXw5.out
      go_wp2
      all_goals (refine bodyPost_ret (v := .tuple #[.agg #[.bool SG, .int .u64 (M 0), .int .u64 (M 1), .int .u64 (M 2), .int .u64 (M 3)], .int .i64 0]) (by simp (maxDischargeDepth := 9) [results, Try.results50, go_sem, *]) rfl ?_)
      refine ⟨M, rfl, ?_, ((((HBV.out.setCell (by dsimp only; omega) _).setCell (by dsimp only; omega) _).setCell (by dsimp only; omega) _).setCell (by dsimp only; omega) _).setCell (by dsimp only; omega) _⟩
      have h := isW_sg (n := NB) HMS.out.1 rfl
      rw [HSG.out, HMS.out.2.1, HNM.out] at h
      exact h
end Go.Proofs.Ytpjdmjmgkdgfnaa
