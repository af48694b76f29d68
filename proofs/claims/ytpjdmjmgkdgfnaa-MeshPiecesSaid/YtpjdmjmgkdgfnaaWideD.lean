/-
  The reference's times, by walks. Conditions: none. By an AI agent.
-/
import Derived.Test.YtpjdmjmgkdgfnaaWideC
namespace Go.Proofs.Ytpjdmjmgkdgfnaa
open Go Go.RowKit Go.Shelf
set_option linter.unusedVariables false
set_option linter.unusedSimpArgs false
set_option maxRecDepth 100000

theorem rmul_step {B v8 vx vy vq xj yq n l3 cn cc pj pq pjq : Int} (h1 : v8 + cc * pjq = vx * vy + xj * vq * pj) (h5 : pjq = pj * pq) (h6 : l3 + cn * B = xj * yq + n + cc) : v8 + (l3 - n) * pjq + cn * (pjq * B) = vx * vy + xj * (vq + yq * pq) * pj := by
  subst h5
  grind
theorem rmul_end {v8 vx vy xj cc pj p : Int} (h1 : v8 + cc * p = vx * vy + xj * vy * pj) : v8 + (cc - 0) * p = (vx + xj * pj) * vy := by grind
set_option maxHeartbeats 4000000 in
theorem times_any (X Y : Nat → Int) (w : World) (hx : dig 4294967296 8 X) (hy : dig 4294967296 8 Y) (hl : valN 4294967296 X 8 * valN 4294967296 Y 8 < 115792089237316195423570985008687907853269984665640564039457584007913129639936) :
    Calls Try.prog 77 #[.agg #[.int .u64 (X 0), .int .u64 (X 1), .int .u64 (X 2), .int .u64 (X 3), .int .u64 (X 4), .int .u64 (X 5), .int .u64 (X 6), .int .u64 (X 7)], .agg #[.int .u64 (Y 0), .int .u64 (Y 1), .int .u64 (Y 2), .int .u64 (Y 3), .int .u64 (Y 4), .int .u64 (Y 5), .int .u64 (Y 6), .int .u64 (Y 7)]] w fun e w' => ∃ Z : Nat → Int, e = .returned (.tuple #[.agg #[.int .u64 (Z 0), .int .u64 (Z 1), .int .u64 (Z 2), .int .u64 (Z 3), .int .u64 (Z 4), .int .u64 (Z 5), .int .u64 (Z 6), .int .u64 (Z 7)], .bool false]) ∧ dig 4294967296 8 Z ∧ valN 4294967296 Z 8 = valN 4294967296 X 8 * valN 4294967296 Y 8 ∧ Below w.heap.size w w' := by
  have HDX := Lib.hid hx
  have HDY := Lib.hid hy
  have HLT := Lib.hid hl
  clear hx hy hl
  go_enter Try.func77, Try.ntmps77
  go_wp2
  go_loopw [7] (fun i wr => ∃ (j : Nat) (M : Nat → Int), j ≤ 8 ∧ i = .int .i64 j ∧ (∀ p, j + 8 ≤ p → p < 16 → M p = 0) ∧ dig 4294967296 16 M ∧ valN 4294967296 M 16 = valN 4294967296 X j * valN 4294967296 Y 8 ∧ DigAt wr (w.heap.size + 1 + 1 + 1) 16 M ∧ FreeAt wr (w.heap.size + 1 + 1 + 1) 16 ∧ (w.heap.size + 1 + 1 + 1) < wr.heap.size ∧ Below (((w.alloc (.cells #[.int .u64 (X 0), .int .u64 (X 1), .int .u64 (X 2), .int .u64 (X 3), .int .u64 (X 4), .int .u64 (X 5), .int .u64 (X 6), .int .u64 (X 7)] 84)).alloc (.cells #[.int .u64 (Y 0), .int .u64 (Y 1), .int .u64 (Y 2), .int .u64 (Y 3), .int .u64 (Y 4), .int .u64 (Y 5), .int .u64 (Y 6), .int .u64 (Y 7)] 84)).alloc (.cells #[.int .u64 0, .int .u64 0, .int .u64 0, .int .u64 0, .int .u64 0, .int .u64 0, .int .u64 0, .int .u64 0] 84)).heap.size (((w.alloc (.cells #[.int .u64 (X 0), .int .u64 (X 1), .int .u64 (X 2), .int .u64 (X 3), .int .u64 (X 4), .int .u64 (X 5), .int .u64 (X 6), .int .u64 (X 7)] 84)).alloc (.cells #[.int .u64 (Y 0), .int .u64 (Y 1), .int .u64 (Y 2), .int .u64 (Y 3), .int .u64 (Y 4), .int .u64 (Y 5), .int .u64 (Y 6), .int .u64 (Y 7)] 84)).alloc (.cells #[.int .u64 0, .int .u64 0, .int .u64 0, .int .u64 0, .int .u64 0, .int .u64 0, .int .u64 0, .int .u64 0] 84)) wr) (fun i _ => 8 - (intOf i).toNat)
  case atStart =>
    refine ⟨0, zeroF, by omega, rfl, fun p _ _ => rfl, fun k hk => by unfold zeroF; omega, ?_, ?_, ?_, by simp <;> omega, by go_grown⟩
    · rw [show valN 4294967296 X 0 = 0 from rfl, Int.zero_mul]
      exact valN_zero fun k hk => rfl
    · intro k hk
      match k, hk with
      | 0, _ => simp [go_sem, zeroF]
      | 1, _ => simp [go_sem, zeroF]
      | 2, _ => simp [go_sem, zeroF]
      | 3, _ => simp [go_sem, zeroF]
      | 4, _ => simp [go_sem, zeroF]
      | 5, _ => simp [go_sem, zeroF]
      | 6, _ => simp [go_sem, zeroF]
      | 7, _ => simp [go_sem, zeroF]
      | 8, _ => simp [go_sem, zeroF]
      | 9, _ => simp [go_sem, zeroF]
      | 10, _ => simp [go_sem, zeroF]
      | 11, _ => simp [go_sem, zeroF]
      | 12, _ => simp [go_sem, zeroF]
      | 13, _ => simp [go_sem, zeroF]
      | 14, _ => simp [go_sem, zeroF]
      | 15, _ => simp [go_sem, zeroF]
      | _ + 16, hk' => exact absurd hk' (by omega)
    · intro k hk
      match k, hk with
      | 0, _ => simp [go_sem]
      | 1, _ => simp [go_sem]
      | 2, _ => simp [go_sem]
      | 3, _ => simp [go_sem]
      | 4, _ => simp [go_sem]
      | 5, _ => simp [go_sem]
      | 6, _ => simp [go_sem]
      | 7, _ => simp [go_sem]
      | 8, _ => simp [go_sem]
      | 9, _ => simp [go_sem]
      | 10, _ => simp [go_sem]
      | 11, _ => simp [go_sem]
      | 12, _ => simp [go_sem]
      | 13, _ => simp [go_sem]
      | 14, _ => simp [go_sem]
      | 15, _ => simp [go_sem]
      | _ + 16, hk' => exact absurd hk' (by omega)
  case round =>
    obtain ⟨j, M, hj, rfl, hz, hd, he, hA, hF, z3, hB⟩ := hrel
    have HB0 := Lib.hid hB
    have HD := Lib.hid hd
    have HZ := Lib.hid hz
    have HE := Lib.hid he
    have HA := Lib.hid hA
    have HF := Lib.hid hF
    have z0 : w.heap.size < wr.heap.size := by omega
    have z1 : w.heap.size + 1 < wr.heap.size := by omega
    clear hd hz he hA hF hB
    by_cases hlt : j < 8
    · have kj : decide ((j : Int) < 8) = true := decide_eq_true (by omega)
      go_wp2
      go_loopw [8, 9] (fun c k wr => ∃ (q : Nat) (M : Nat → Int) (cc : Int), q ≤ 8 ∧ c = .int .u64 cc ∧ k = .int .i64 q ∧ (0 ≤ cc ∧ cc < 4294967296) ∧ (∀ p, j + 8 ≤ p → p < 16 → M p = 0) ∧ dig 4294967296 16 M ∧ valN 4294967296 M 16 + cc * pw 4294967296 (j + q) = valN 4294967296 X j * valN 4294967296 Y 8 + X j * valN 4294967296 Y q * pw 4294967296 j ∧ DigAt wr (w.heap.size + 1 + 1 + 1) 16 M ∧ FreeAt wr (w.heap.size + 1 + 1 + 1) 16 ∧ (w.heap.size + 1 + 1 + 1) < wr.heap.size ∧ Below (((w.alloc (.cells #[.int .u64 (X 0), .int .u64 (X 1), .int .u64 (X 2), .int .u64 (X 3), .int .u64 (X 4), .int .u64 (X 5), .int .u64 (X 6), .int .u64 (X 7)] 84)).alloc (.cells #[.int .u64 (Y 0), .int .u64 (Y 1), .int .u64 (Y 2), .int .u64 (Y 3), .int .u64 (Y 4), .int .u64 (Y 5), .int .u64 (Y 6), .int .u64 (Y 7)] 84)).alloc (.cells #[.int .u64 0, .int .u64 0, .int .u64 0, .int .u64 0, .int .u64 0, .int .u64 0, .int .u64 0, .int .u64 0] 84)).heap.size (((w.alloc (.cells #[.int .u64 (X 0), .int .u64 (X 1), .int .u64 (X 2), .int .u64 (X 3), .int .u64 (X 4), .int .u64 (X 5), .int .u64 (X 6), .int .u64 (X 7)] 84)).alloc (.cells #[.int .u64 (Y 0), .int .u64 (Y 1), .int .u64 (Y 2), .int .u64 (Y 3), .int .u64 (Y 4), .int .u64 (Y 5), .int .u64 (Y 6), .int .u64 (Y 7)] 84)).alloc (.cells #[.int .u64 0, .int .u64 0, .int .u64 0, .int .u64 0, .int .u64 0, .int .u64 0, .int .u64 0, .int .u64 0] 84)) wr) (fun _ k _ => 8 - (intOf k).toNat)
      case atStart =>
        refine ⟨0, M, 0, by omega, rfl, rfl, by decide, HZ.out, HD.out, ?_, HA.out, HF.out, z3, HB0.out⟩
        rw [HE.out, show valN 4294967296 Y 0 = 0 from rfl]
        simp
      case round =>
        clear HB0 HD HZ HE HA HF z3 z0 z1
        obtain ⟨q, M, cc, hq, rfl, rfl, hcc, hz, hd, he, hA, hF, z3, hB⟩ := hrel
        have HB0 := Lib.hid hB
        have HD := Lib.hid hd
        have HZ := Lib.hid hz
        have HE := Lib.hid he
        have HA := Lib.hid hA
        have HF := Lib.hid hF
        have z0 : w.heap.size < wr.heap.size := by omega
        have z1 : w.heap.size + 1 < wr.heap.size := by omega
        clear hd hz he hA hF hB
        have HC := Lib.hid hcc
        have HX : Hid (∀ k, k < 8 → wr.cell? ⟨w.heap.size, k, none⟩ = some (.int .u64 (X k))) := by
          show ∀ k, _
          intro k hk
          exact (HB0.out.cell (p := ⟨_, _, none⟩) (by simp <;> omega)).trans (by
            match k, hk with
            | 0, _ => simp [go_sem]
            | 1, _ => simp [go_sem]
            | 2, _ => simp [go_sem]
            | 3, _ => simp [go_sem]
            | 4, _ => simp [go_sem]
            | 5, _ => simp [go_sem]
            | 6, _ => simp [go_sem]
            | 7, _ => simp [go_sem])
        have HY : Hid (∀ k, k < 8 → wr.cell? ⟨(w.heap.size + 1), k, none⟩ = some (.int .u64 (Y k))) := by
          show ∀ k, _
          intro k hk
          exact (HB0.out.cell (p := ⟨_, _, none⟩) (by simp <;> omega)).trans (by
            match k, hk with
            | 0, _ => simp [go_sem]
            | 1, _ => simp [go_sem]
            | 2, _ => simp [go_sem]
            | 3, _ => simp [go_sem]
            | 4, _ => simp [go_sem]
            | 5, _ => simp [go_sem]
            | 6, _ => simp [go_sem]
            | 7, _ => simp [go_sem])
        by_cases hql : q < 8
        · have cm := HA.out (j + q) (by omega)
          have fm := HF.out (j + q) (by omega)
          have cx := HX.out j hlt
          have cy := HY.out q hql
          have v0 : IntKind.i64.wrap ((j : Int) + (q : Int)) = (j : Int) + (q : Int) := IntWalk.i64_in _ (by omega)
          have t0 : ((j : Int) + (q : Int)).toNat = j + q := by omega
          have k0 : (0 : Int) ≤ (j : Int) + (q : Int) := by omega
          have k1 : (j : Int) + (q : Int) < 16 := by omega
          have k2 : (0 : Int) ≤ (q : Int) := by omega
          have k3 : (q : Int) < 8 := by omega
          have k4 : (0 : Int) ≤ (j : Int) := by omega
          have k5 : (j : Int) < 8 := by omega
          have kq : decide ((q : Int) < 8) = true := decide_eq_true (by omega)
          have h1 := HDX.out j hlt
          have h2 := HDY.out q hql
          have h4 := HD.out (j + q) (by omega)
          have h3 := HC.out
          have h5 : X j * Y q ≤ (4294967296 - 1) * (4294967296 - 1) := Int.mul_le_mul (by omega) (by omega) h2.1 (by omega)
          have h6 : 0 ≤ X j * Y q := Int.mul_nonneg h1.1 h2.1
          have m0 : IntKind.u64.wrap (cc + M (j + q)) = cc + M (j + q) := by rw [IntKind.wrap_u64]; omega
          have m1 : IntKind.u64.wrap (X j * Y q) = X j * Y q := by rw [IntKind.wrap_u64]; omega
          have m2 : IntKind.u64.wrap (cc + M (j + q) + X j * Y q) = (cc + M (j + q) + X j * Y q) := by rw [IntKind.wrap_u64]; omega
          have m3 : (cc + M (j + q) + X j * Y q).tmod 4294967296 = (cc + M (j + q) + X j * Y q) % 4294967296 := Int.tmod_eq_emod_of_nonneg (by omega)
          have m4 : IntKind.u64.wrap ((cc + M (j + q) + X j * Y q).tdiv 4294967296) = (cc + M (j + q) + X j * Y q) / 4294967296 := by rw [Int.tdiv_eq_ediv_of_nonneg (by omega), IntKind.wrap_u64]; omega
          have HS : Hid (0 ≤ (cc + M (j + q) + X j * Y q) % 4294967296 ∧ (cc + M (j + q) + X j * Y q) % 4294967296 < 4294967296) := ⟨by omega, by omega⟩
          have HCN : Hid (0 ≤ (cc + M (j + q) + X j * Y q) / 4294967296 ∧ (cc + M (j + q) + X j * Y q) / 4294967296 < 4294967296) := ⟨by omega, by omega⟩
          have HQ : Hid ((cc + M (j + q) + X j * Y q) % 4294967296 + (cc + M (j + q) + X j * Y q) / 4294967296 * 4294967296 = X j * Y q + M (j + q) + cc) := by show _ = _; omega
          clear h1 h2 h3 h4 h5 h6 hcc
          go_wp2_with fail
          refine wp_region_relw 15 (by kernel_rfl) (by kernel_rfl) (by kernel_rfl) ?_
          simp only [List.take_succ_cons, List.take_zero, fillL, Act.put, List.setIfInBounds_toArray, List.set_cons_zero, List.set_cons_succ]
          iterate 15
            apply rel_is
            · intro u wx hb hd
              have hz := hb.size
              (try simp only [World.size_alloc, World.size_setCell] at hz)
              have hz0 : w.heap.size < wx.heap.size := by omega
              have hz1 : w.heap.size + 1 < wx.heap.size := by omega
              have hz2 : w.heap.size + 1 + 1 + 1 < wx.heap.size := by omega
              obtain ⟨hc, hf⟩ := bcell hb
              have HBX := Lib.hid hb
              clear hb hz
              simp [depsS, Region.binds, updS, Stay.is, Stay.any] at hd
              go_simp
              first | exact ⟨Below.refl _ _, rfl⟩ | rfl
          intro u w5 hb hE
          have e0 : u 0 = _ := endS_get hE 0 (by decide)
          have e1 : u 1 = _ := endS_get hE 1 (by decide)
          have e2 : u 2 = _ := endS_get hE 2 (by decide)
          have e3 : u 3 = _ := endS_get hE 3 (by decide)
          have e4 : u 4 = _ := endS_get hE 4 (by decide)
          have e5 : u 5 = _ := endS_get hE 5 (by decide)
          have e6 : u 6 = _ := endS_get hE 6 (by decide)
          have e7 : u 7 = _ := endS_get hE 7 (by decide)
          have e8 : u 8 = _ := endS_get hE 8 (by decide)
          have e9 : u 9 = _ := endS_get hE 9 (by decide)
          have e10 : u 10 = _ := endS_get hE 10 (by decide)
          have e11 : u 11 = _ := endS_get hE 11 (by decide)
          have e12 : u 12 = _ := endS_get hE 12 (by decide)
          have e13 : u 13 = _ := endS_get hE 13 (by decide)
          have e14 : u 14 = _ := endS_get hE 14 (by decide)
          simp only [List.drop_succ_cons, List.drop_zero, List.take_succ_cons, List.take_zero, fillL, Act.put, List.setIfInBounds_toArray, List.set_cons_zero, List.set_cons_succ, e0, e1, e2, e3, e4, e5, e6, e7, e8, e9, e10, e11, e12, e13, e14]
          clear e0 e1 e2 e3 e4 e5 e6 e7 e8 e9 e10 e11 e12 e13 e14 hE
          have HBw5 := Lib.hid (below_step (w := wr) (by first | assumption | go_grown) hb)
          have HBXw5 := Lib.hid hb
          have hzw5 := hb.size
          (try simp only [World.size_alloc, World.size_setCell] at hzw5)
          have hzw50 : w.heap.size < w5.heap.size := by omega
          have hzw51 : w.heap.size + 1 < w5.heap.size := by omega
          have hzw52 : w.heap.size + 1 + 1 + 1 < w5.heap.size := by omega
          obtain ⟨hcw5, hfw5⟩ := bcell hb
          clear hb hzw5
          go_wp2
          go_roundw
          case rel =>
            refine ⟨q + 1, updF M (j + q) ((cc + M (j + q) + X j * Y q) % 4294967296), (cc + M (j + q) + X j * Y q) / 4294967296, by omega, rfl, by go_num, HCN.out, ?_, ?_, ?_, (HA.out.below HBXw5.out z3).upd (by omega), ?_, by simpa using hzw52, (HB0.out.trans (HBXw5.out.mono (by have := HB0.out.size; omega))).setCell (by simp <;> omega) _⟩
            · intro p hp hp2
              unfold updF
              rw [if_neg (by omega)]
              exact HZ.out p hp hp2
            · intro p hp
              unfold updF
              split
              · exact HS.out
              · exact HD.out p hp
            · have h1 := HE.out
              have h2 := HQ.out
              rw [valN_upd (by omega : j + q < 16), valN, ← Nat.add_assoc, pw]
              exact rmul_step h1 (pw_add _ _ _) h2
            · intro p hp
              rw [World.frozen?_setCell]
              exact (HBXw5.out.frozen (p := ⟨_, _, none⟩) z3).trans (HF.out p hp)
          case measure => simp [intOf]; omega
        · obtain rfl : q = 8 := by omega
          have cm := HA.out (j + 8) (by omega)
          have fm := HF.out (j + 8) (by omega)
          have v0 : IntKind.i64.wrap ((j : Int) + 8) = (j : Int) + 8 := IntWalk.i64_in _ (by omega)
          have t0 : ((j : Int) + 8).toNat = j + 8 := by omega
          have k0 : (0 : Int) ≤ (j : Int) + 8 := by omega
          have k1 : (j : Int) + 8 < 16 := by omega
          clear hcc
          go_wp2
          go_roundw
          case rel =>
            refine ⟨j + 1, updF M (j + 8) cc, by omega, by go_num, ?_, ?_, ?_, HA.out.upd (by omega), fun p hp => by rw [World.frozen?_setCell]; exact HF.out p hp, by simpa using z3, HB0.out.setCell (by simp <;> omega) _⟩
            · intro p hp hp2
              unfold updF
              rw [if_neg (by omega)]
              exact HZ.out p (by omega) hp2
            · intro p hp
              unfold updF
              split
              · exact HC.out
              · exact HD.out p hp
            · have h1 := HE.out
              have h2 := HZ.out (j + 8) (by omega) (by omega)
              rw [valN_upd (by omega : j + 8 < 16), h2, valN]
              exact rmul_end h1
          case measure => simp [intOf]; omega
    · obtain rfl : j = 8 := by omega
      have HHI : Hid ((∀ p, 8 ≤ p → p < 16 → M p = 0) ∧ valN 4294967296 M 8 = valN 4294967296 X 8 * valN 4294967296 Y 8) := by
        have h2 := HLT.out
        have h3 := HD.out
        have e16 := HE.out
        have hb := valN_bd (n := 8) (by decide) (fun k hk => h3 k (by omega))
        have e : valN 4294967296 M 16 = valN 4294967296 M 8 + M 8 * pw 4294967296 8 + M 9 * pw 4294967296 9 + M 10 * pw 4294967296 10 + M 11 * pw 4294967296 11 + M 12 * pw 4294967296 12 + M 13 * pw 4294967296 13 + M 14 * pw 4294967296 14 + M 15 * pw 4294967296 15 := by simp only [valN]
        rw [show pw 4294967296 9 = pw 4294967296 8 * 4294967296 from rfl, show pw 4294967296 10 = pw 4294967296 8 * 4294967296 * 4294967296 from rfl, show pw 4294967296 11 = pw 4294967296 8 * 4294967296 * 4294967296 * 4294967296 from rfl, show pw 4294967296 12 = pw 4294967296 8 * 4294967296 * 4294967296 * 4294967296 * 4294967296 from rfl, show pw 4294967296 13 = pw 4294967296 8 * 4294967296 * 4294967296 * 4294967296 * 4294967296 * 4294967296 from rfl, show pw 4294967296 14 = pw 4294967296 8 * 4294967296 * 4294967296 * 4294967296 * 4294967296 * 4294967296 * 4294967296 from rfl, show pw 4294967296 15 = pw 4294967296 8 * 4294967296 * 4294967296 * 4294967296 * 4294967296 * 4294967296 * 4294967296 * 4294967296 from rfl, pw8] at e
        rw [pw8] at hb
        have d8 := h3 8 (by decide)
        have d9 := h3 9 (by decide)
        have d10 := h3 10 (by decide)
        have d11 := h3 11 (by decide)
        have d12 := h3 12 (by decide)
        have d13 := h3 13 (by decide)
        have d14 := h3 14 (by decide)
        have d15 := h3 15 (by decide)
        have q8 : M 8 = 0 := by omega
        have q9 : M 9 = 0 := by omega
        have q10 : M 10 = 0 := by omega
        have q11 : M 11 = 0 := by omega
        have q12 : M 12 = 0 := by omega
        have q13 : M 13 = 0 := by omega
        have q14 : M 14 = 0 := by omega
        have q15 : M 15 = 0 := by omega
        refine ⟨fun p hp hp2 => ?_, by rw [q8, q9, q10, q11, q12, q13, q14, q15] at e; omega⟩
        match p, hp, hp2 with
        | 8, _, _ => exact q8
        | 9, _, _ => exact q9
        | 10, _, _ => exact q10
        | 11, _, _ => exact q11
        | 12, _, _ => exact q12
        | 13, _, _ => exact q13
        | 14, _, _ => exact q14
        | 15, _, _ => exact q15
        | _ + 16, _, h9 => exact absurd h9 (by omega)
      have HR : Hid (∀ k, k < 8 → wr.cell? ⟨(w.heap.size + 1 + 1), k, none⟩ = some (.int .u64 (zeroF k)) ∧ wr.frozen? ⟨(w.heap.size + 1 + 1), k, none⟩ = false) := by
        show ∀ k, _
        intro k hk
        exact ⟨(HB0.out.cell (p := ⟨_, _, none⟩) (by simp <;> omega)).trans (by
          match k, hk with
          | 0, _ => simp [go_sem, zeroF]
          | 1, _ => simp [go_sem, zeroF]
          | 2, _ => simp [go_sem, zeroF]
          | 3, _ => simp [go_sem, zeroF]
          | 4, _ => simp [go_sem, zeroF]
          | 5, _ => simp [go_sem, zeroF]
          | 6, _ => simp [go_sem, zeroF]
          | 7, _ => simp [go_sem, zeroF]), (HB0.out.frozen (p := ⟨_, _, none⟩) (by simp <;> omega)).trans (by
          match k, hk with
          | 0, _ => simp [go_sem]
          | 1, _ => simp [go_sem]
          | 2, _ => simp [go_sem]
          | 3, _ => simp [go_sem]
          | 4, _ => simp [go_sem]
          | 5, _ => simp [go_sem]
          | 6, _ => simp [go_sem]
          | 7, _ => simp [go_sem])⟩
      have HBW : Hid (Below w.heap.size w wr) := by
        show Below _ _ _
        exact below_step (w := w) (by go_grown) HB0.out
      have HR0 := HR
      have HAW := HA
      clear HE HZ HR
      obtain ⟨w6, hw6⟩ : ∃ x : World, x = wr := ⟨_, rfl⟩
      rw [← hw6] at HBW HAW HR0 HA HF HB0 z0 z1 z3 ⊢
      clear hw6
      go_wp2
      go_loopw [11, 12] (fun o i wr => ∃ (j : Nat) (N : Nat → Int), j ≤ 8 ∧ o = .bool false ∧ i = .int .i64 j ∧ (∀ k, k < j → N k = M k) ∧ DigAt wr w6.heap.size 8 N ∧ FreeAt wr w6.heap.size 8 ∧ w6.heap.size < wr.heap.size ∧ Below w6.heap.size w6 wr) (fun _ i _ => 8 - (intOf i).toNat)
      case atStart =>
        refine ⟨0, zeroF, by omega, rfl, rfl, fun k hk => absurd hk (by omega), ?_, ?_, by simp, by go_grown⟩
        · intro k hk
          match k, hk with
          | 0, _ => simp [go_sem, zeroF]
          | 1, _ => simp [go_sem, zeroF]
          | 2, _ => simp [go_sem, zeroF]
          | 3, _ => simp [go_sem, zeroF]
          | 4, _ => simp [go_sem, zeroF]
          | 5, _ => simp [go_sem, zeroF]
          | 6, _ => simp [go_sem, zeroF]
          | 7, _ => simp [go_sem, zeroF]
        · intro k hk
          match k, hk with
          | 0, _ => simp [go_sem]
          | 1, _ => simp [go_sem]
          | 2, _ => simp [go_sem]
          | 3, _ => simp [go_sem]
          | 4, _ => simp [go_sem]
          | 5, _ => simp [go_sem]
          | 6, _ => simp [go_sem]
          | 7, _ => simp [go_sem]
      case round =>
        obtain ⟨j, N, hj, rfl, rfl, hn, hN, hG, z9, hB⟩ := hrel
        have HB9 := Lib.hid hB
        have HNN := Lib.hid hn
        have HN := Lib.hid hN
        have HG := Lib.hid hG
        have zr : (w.heap.size + 1 + 1 + 1) < wr.heap.size := by have := hB.size; omega
        have zq : w.heap.size + 1 + 1 < wr.heap.size := by have := hB.size; omega
        clear hn hN hG hB
        by_cases hlt : j < 8
        · have c0 : wr.cell? ⟨(w.heap.size + 1 + 1 + 1), j, none⟩ = some (.int .u64 (M j)) := (HB9.out.cell (p := ⟨_, _, none⟩) z3).trans (HA.out j (by omega))
          have c8 : wr.cell? ⟨(w.heap.size + 1 + 1 + 1), j + 8, none⟩ = some (.int .u64 0) := (HB9.out.cell (p := ⟨_, _, none⟩) z3).trans ((HA.out (j + 8) (by omega)).trans (by rw [HHI.out.1 (j + 8) (by omega) (by omega)]))
          have cn := HN.out j hlt
          have fn := HG.out j hlt
          have k0 : (0 : Int) ≤ (j : Int) := by omega
          have k1 : (j : Int) < 8 := by omega
          have k2 : (j : Int) < 16 := by omega
          have v0 : IntKind.i64.wrap ((j : Int) + 8) = (j : Int) + 8 := IntWalk.i64_in _ (by omega)
          have t0 : ((j : Int) + 8).toNat = j + 8 := by omega
          have k3 : (0 : Int) ≤ (j : Int) + 8 := by omega
          have k4 : (j : Int) + 8 < 16 := by omega
          have hne : w6.heap.size ≠ (w.heap.size + 1 + 1 + 1) := by omega
          go_wp2
          go_roundw
          case rel => exact ⟨j + 1, updF N j (M j), by omega, rfl, by go_num, (fun k hk => by
            unfold updF
            split
            · rename_i hkj; rw [hkj]
            · exact HNN.out k (by omega)), HN.out.upd hlt, fun p hp => by rw [World.frozen?_setCell]; exact HG.out p hp, by simpa using z9, HB9.out.setCell (Nat.le_refl _) _⟩
          case measure => simp [intOf]; omega
        · obtain rfl : j = 8 := by omega
          have m0 := HN.out 0 (by decide)
          have q0 := (HB9.out.cell (p := ⟨_, 0, none⟩) (show w.heap.size + 1 + 1 < w6.heap.size by omega)).trans (HR0.out 0 (by decide)).1
          have fq0 := (HB9.out.frozen (p := ⟨_, 0, none⟩) (show w.heap.size + 1 + 1 < w6.heap.size by omega)).trans (HR0.out 0 (by decide)).2
          have m1 := HN.out 1 (by decide)
          have q1 := (HB9.out.cell (p := ⟨_, 1, none⟩) (show w.heap.size + 1 + 1 < w6.heap.size by omega)).trans (HR0.out 1 (by decide)).1
          have fq1 := (HB9.out.frozen (p := ⟨_, 1, none⟩) (show w.heap.size + 1 + 1 < w6.heap.size by omega)).trans (HR0.out 1 (by decide)).2
          have m2 := HN.out 2 (by decide)
          have q2 := (HB9.out.cell (p := ⟨_, 2, none⟩) (show w.heap.size + 1 + 1 < w6.heap.size by omega)).trans (HR0.out 2 (by decide)).1
          have fq2 := (HB9.out.frozen (p := ⟨_, 2, none⟩) (show w.heap.size + 1 + 1 < w6.heap.size by omega)).trans (HR0.out 2 (by decide)).2
          have m3 := HN.out 3 (by decide)
          have q3 := (HB9.out.cell (p := ⟨_, 3, none⟩) (show w.heap.size + 1 + 1 < w6.heap.size by omega)).trans (HR0.out 3 (by decide)).1
          have fq3 := (HB9.out.frozen (p := ⟨_, 3, none⟩) (show w.heap.size + 1 + 1 < w6.heap.size by omega)).trans (HR0.out 3 (by decide)).2
          have m4 := HN.out 4 (by decide)
          have q4 := (HB9.out.cell (p := ⟨_, 4, none⟩) (show w.heap.size + 1 + 1 < w6.heap.size by omega)).trans (HR0.out 4 (by decide)).1
          have fq4 := (HB9.out.frozen (p := ⟨_, 4, none⟩) (show w.heap.size + 1 + 1 < w6.heap.size by omega)).trans (HR0.out 4 (by decide)).2
          have m5 := HN.out 5 (by decide)
          have q5 := (HB9.out.cell (p := ⟨_, 5, none⟩) (show w.heap.size + 1 + 1 < w6.heap.size by omega)).trans (HR0.out 5 (by decide)).1
          have fq5 := (HB9.out.frozen (p := ⟨_, 5, none⟩) (show w.heap.size + 1 + 1 < w6.heap.size by omega)).trans (HR0.out 5 (by decide)).2
          have m6 := HN.out 6 (by decide)
          have q6 := (HB9.out.cell (p := ⟨_, 6, none⟩) (show w.heap.size + 1 + 1 < w6.heap.size by omega)).trans (HR0.out 6 (by decide)).1
          have fq6 := (HB9.out.frozen (p := ⟨_, 6, none⟩) (show w.heap.size + 1 + 1 < w6.heap.size by omega)).trans (HR0.out 6 (by decide)).2
          have m7 := HN.out 7 (by decide)
          have q7 := (HB9.out.cell (p := ⟨_, 7, none⟩) (show w.heap.size + 1 + 1 < w6.heap.size by omega)).trans (HR0.out 7 (by decide)).1
          have fq7 := (HB9.out.frozen (p := ⟨_, 7, none⟩) (show w.heap.size + 1 + 1 < w6.heap.size by omega)).trans (HR0.out 7 (by decide)).2
          have hbw : Below w.heap.size w wr := below_step HBW.out HB9.out
          go_wp2
          all_goals (refine bodyPost_ret (v := .tuple #[.agg #[.int .u64 (N 0), .int .u64 (N 1), .int .u64 (N 2), .int .u64 (N 3), .int .u64 (N 4), .int .u64 (N 5), .int .u64 (N 6), .int .u64 (N 7)], .bool false]) (by simp (maxDischargeDepth := 9) [results, Try.results77, go_sem, *]) rfl ?_)
          refine ⟨N, rfl, fun k hk => by rw [HNN.out k hk]; exact HD.out k (by omega), ?_, by go_grown⟩
          rw [valN_congr (fun k hk => HNN.out k hk)]
          exact HHI.out.2
end Go.Proofs.Ytpjdmjmgkdgfnaa
