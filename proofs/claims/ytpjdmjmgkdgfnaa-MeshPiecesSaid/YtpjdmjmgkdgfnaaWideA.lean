/-
  math/bits' words at this program; the program's signed, negative, compare, Of, Cmp, plus, minus, by walks. Conditions: none. By an AI agent.
-/
import Derived.Test.YtpjdmjmgkdgfnaaWideP
import Derived.Test.YtpjdmjmgkdgfnaaStore
import Derived.Test.YtpjdmjmgkdgfnaaRelw
import Derived.Test.YtpjdmjmgkdgfnaaCells
import Derived.Shelf.Spec.BitsCarry
import Derived.Lib.Mul64
import Derived.Laws.Bits64b
namespace Go.Proofs.Ytpjdmjmgkdgfnaa
open Go Go.RowKit Go.Shelf
set_option linter.unusedVariables false
set_option linter.unusedSimpArgs false
set_option maxRecDepth 100000

theorem add64_has (x y c : Int) (hx : 0 ≤ x ∧ x < 18446744073709551616) (hy : 0 ≤ y ∧ y < 18446744073709551616) (hc : 0 ≤ c ∧ c ≤ 1) :
    ∃ s k : Int, (0 ≤ s ∧ s < 18446744073709551616) ∧ (0 ≤ k ∧ k ≤ 1) ∧ s + k * 18446744073709551616 = x + y + c ∧ ∀ w, (callFunc 71 #[.int .u64 x, .int .u64 y, .int .u64 c]).run Try.prog w = .ok (.value (.tuple #[.int .u64 s, .int .u64 k])) w := by
  obtain ⟨x, rfl⟩ := Int.eq_ofNat_of_zero_le hx.1
  obtain ⟨y, rfl⟩ := Int.eq_ofNat_of_zero_le hy.1
  obtain ⟨c, rfl⟩ := Int.eq_ofNat_of_zero_le hc.1
  refine ⟨(((x + y + c) % 18446744073709551616 : Nat) : Int), (((x + y + c) / 18446744073709551616 : Nat) : Int), by omega, by omega, by omega, fun w => ?_⟩
  rw [run_callFunc_extern Try.func71 (by kernel_rfl) (by kernel_rfl) (by kernel_rfl) (e := add64Entry) (by kernel_rfl), run_add64 x y c (by omega) (by omega) (by omega) (by omega)]
  simp only [Result.andThen]
  congr 5 <;> omega
theorem sub64_has (x y c : Int) (hx : 0 ≤ x ∧ x < 18446744073709551616) (hy : 0 ≤ y ∧ y < 18446744073709551616) (hc : 0 ≤ c ∧ c ≤ 1) :
    ∃ s k : Int, (0 ≤ s ∧ s < 18446744073709551616) ∧ (0 ≤ k ∧ k ≤ 1) ∧ s - k * 18446744073709551616 = x - y - c ∧ ∀ w, (callFunc 80 #[.int .u64 x, .int .u64 y, .int .u64 c]).run Try.prog w = .ok (.value (.tuple #[.int .u64 s, .int .u64 k])) w := by
  obtain ⟨x, rfl⟩ := Int.eq_ofNat_of_zero_le hx.1
  obtain ⟨y, rfl⟩ := Int.eq_ofNat_of_zero_le hy.1
  obtain ⟨c, rfl⟩ := Int.eq_ofNat_of_zero_le hc.1
  refine ⟨(((x + 18446744073709551616 - y - c) % 18446744073709551616 : Nat) : Int), ((if x < y + c then 1 else 0 : Nat) : Int), by omega, by split <;> omega, by split <;> omega, fun w => ?_⟩
  rw [run_callFunc_extern Try.func80 (by kernel_rfl) (by kernel_rfl) (by kernel_rfl) (e := sub64Entry) (by kernel_rfl), run_sub64 x y c (by omega)]
  rfl
theorem equal_mag (X Y : Nat → Int) (w : World) : (Op.equalIn 10000 31 (.agg #[.int .u64 (X 0), .int .u64 (X 1), .int .u64 (X 2), .int .u64 (X 3)]) (.agg #[.int .u64 (Y 0), .int .u64 (Y 1), .int .u64 (Y 2), .int .u64 (Y 3)])).run Try.prog w = .ok (X 0 == Y 0 && (X 1 == Y 1 && (X 2 == Y 2 && X 3 == Y 3))) w := by
  rw [show (10000 : Nat) = 9999 + 1 from rfl, Op.equalIn]
  simp only [Sem.run_bind, run_underlying Try.underlying31, Result.andThen_ok]
  simp only [Std.Legacy.Range.forIn_eq_forIn_range', Std.Legacy.Range.size, Nat.sub_zero, Nat.add_sub_cancel, Nat.div_one, List.range'_succ, List.range'_zero, List.forIn_cons, List.forIn_nil]
  go_simp
  by_cases h0 : X 0 = Y 0 <;> by_cases h1 : X 1 = Y 1 <;> by_cases h2 : X 2 = Y 2 <;> by_cases h3 : X 3 = Y 3 <;> simp [h0, h1, h2, h3]
theorem mag_nz {n : Int} {X : Nat → Int} (h : dig 18446744073709551616 4 X) (hv : valN 18446744073709551616 X 4 = n) (w : World) : (binOp .neq 31 (.agg #[.int .u64 (X 0), .int .u64 (X 1), .int .u64 (X 2), .int .u64 (X 3)]) (.agg #[.int .u64 0, .int .u64 0, .int .u64 0, .int .u64 0])).run Try.prog w = .ok (.bool (decide (n ≠ 0))) w := by
  have he := equal_mag X zeroF w
  unfold zeroF at he
  rw [run_neq_struct, he]
  show Result.ok (Value.bool (!_)) w = _
  congr 2
  by_cases h2 : n = 0
  · have hz := valN_one (Y := zeroF) (by decide) h (fun k hk => by unfold zeroF; omega) (hv.trans (h2.trans (valN_zero (fun k hk => rfl)).symm))
    have e0 : X 0 = 0 := hz 0 (by decide)
    have e1 : X 1 = 0 := hz 1 (by decide)
    have e2 : X 2 = 0 := hz 2 (by decide)
    have e3 : X 3 = 0 := hz 3 (by decide)
    simp [e0, e1, e2, e3, h2]
  · rw [decide_eq_true h2]
    cases hq : (X 0 == 0 && (X 1 == 0 && (X 2 == 0 && X 3 == 0))) with
    | false => rfl
    | true =>
      simp only [Bool.and_eq_true, beq_iff_eq] at hq
      refine absurd (hv.symm.trans (valN_zero fun k hk => ?_)) h2
      match k, hk with
      | 0, _ => exact hq.1
      | 1, _ => exact hq.2.1
      | 2, _ => exact hq.2.2.1
      | 3, _ => exact hq.2.2.2

theorem lit4_upd (X : Nat → Int) (j : Nat) (v : Int) (h : j < 4) : (#[.int .u64 (X 0), .int .u64 (X 1), .int .u64 (X 2), .int .u64 (X 3)] : Array Value).setIfInBounds j (.int .u64 v) = #[.int .u64 ((updF X j v) 0), .int .u64 ((updF X j v) 1), .int .u64 ((updF X j v) 2), .int .u64 ((updF X j v) 3)] := by
  match j, h with
  | 0, _ => simp [updF]
  | 1, _ => simp [updF]
  | 2, _ => simp [updF]
  | 3, _ => simp [updF]
theorem dig4_at {w : World} {b : Nat} {X : Nat → Int} {t : TypeId} (h : w.heap[b]? = some (.cells #[.int .u64 (X 0), .int .u64 (X 1), .int .u64 (X 2), .int .u64 (X 3)] t)) : DigAt w b 4 X ∧ FreeAt w b 4 := by
  obtain ⟨h0, h1, h2, h3, h4, h5⟩ := cells_at4 h
  refine ⟨fun k hk => ?_, fun k hk => h4 k⟩
  match k, hk with
  | 0, _ => exact h0
  | 1, _ => exact h1
  | 2, _ => exact h2
  | 3, _ => exact h3

set_option maxHeartbeats 4000000 in
theorem plus_any (X Y : Nat → Int) (w : World) (hx : dig 18446744073709551616 4 X) (hy : dig 18446744073709551616 4 Y) :
    Calls Try.prog 73 #[.agg #[.int .u64 (X 0), .int .u64 (X 1), .int .u64 (X 2), .int .u64 (X 3)], .agg #[.int .u64 (Y 0), .int .u64 (Y 1), .int .u64 (Y 2), .int .u64 (Y 3)]] w fun e w' => ∃ (S : Nat → Int) (k : Int), e = .returned (.tuple #[.agg #[.int .u64 (S 0), .int .u64 (S 1), .int .u64 (S 2), .int .u64 (S 3)], .int .u64 k]) ∧ dig 18446744073709551616 4 S ∧ (0 ≤ k ∧ k ≤ 1) ∧ valN 18446744073709551616 S 4 + k * pw 18446744073709551616 4 = valN 18446744073709551616 X 4 + valN 18446744073709551616 Y 4 ∧ Below w.heap.size w w' := by
  have HDX := Lib.hid hx
  have HDY := Lib.hid hy
  clear hx hy
  go_enter Try.func73, Try.ntmps73
  go_wp2
  go_loopw [5, 7] (fun c i wr => ∃ (j : Nat) (S : Nat → Int) (k : Int), j ≤ 4 ∧ c = .int .u64 k ∧ i = .int .i64 j ∧ (0 ≤ k ∧ k ≤ 1) ∧ dig 18446744073709551616 j S ∧ valN 18446744073709551616 S j + k * pw 18446744073709551616 j = valN 18446744073709551616 X j + valN 18446744073709551616 Y j ∧ wr.heap[w.heap.size + 1 + 1]? = some (.cells #[.int .u64 (S 0), .int .u64 (S 1), .int .u64 (S 2), .int .u64 (S 3)] 31) ∧ DigAt wr w.heap.size 4 X ∧ DigAt wr (w.heap.size + 1) 4 Y ∧ w.heap.size + 1 + 1 < wr.heap.size ∧ Below w.heap.size w wr) (fun _ i _ => 4 - (intOf i).toNat)
  case atStart =>
    refine ⟨0, zeroF, 0, by omega, rfl, rfl, ⟨by decide, by decide⟩, fun k hk => absurd hk (by omega), by simp [valN], heapA_at _ _ _ (by simp), ?_, ?_, by simp <;> omega, by go_grown⟩
    · intro k hk
      match k, hk with
      | 0, _ => simp [go_sem]
      | 1, _ => simp [go_sem]
      | 2, _ => simp [go_sem]
      | 3, _ => simp [go_sem]
    · intro k hk
      match k, hk with
      | 0, _ => simp [go_sem]
      | 1, _ => simp [go_sem]
      | 2, _ => simp [go_sem]
      | 3, _ => simp [go_sem]
  case round =>
    obtain ⟨j, S, k, hj, rfl, rfl, hk, hd, he, hR, hX, hY, z2, hB⟩ := hrel
    have HBr := Lib.hid hB
    have HD := Lib.hid hd
    have HE := Lib.hid he
    have HRB := Lib.hid hR
    have HX := Lib.hid hX
    have HY := Lib.hid hY
    have z0 : w.heap.size < wr.heap.size := by omega
    have z1 : w.heap.size + 1 < wr.heap.size := by omega
    clear hd he hR hX hY
    by_cases hlt : j < 4
    · obtain ⟨s, k', hs, hk', hq, hadd⟩ := add64_has (X j) (Y j) k (HDX.out j hlt) (HDY.out j hlt) hk
      have HQ := Lib.hid hq
      have HS := Lib.hid hs
      have HK := Lib.hid hk'
      have cx := HX.out j hlt
      have cy := HY.out j hlt
      have k0 : (0 : Int) ≤ (j : Int) := by omega
      have k1 : (j : Int) < 4 := by omega
      clear hq hs hk' hk
      go_wp2_with fail
      refine wp_region_seq 14 [] [⟨w.heap.size + 1 + 1, 13, #[.int .u64 (S 0), .int .u64 (S 1), .int .u64 (S 2), .int .u64 (S 3)], 31⟩] (by kernel_rfl) (by kernel_rfl) (by kernel_rfl) (by kernel_rfl) (by kernel_rfl) ?_ ?_ ?_
      · intro r hr
        simp only [List.mem_singleton] at hr
        subst hr
        have x0 := HRB.out
        refine ⟨by show w.heap.size + 1 + 1 < _; first | omega | (simp <;> omega), ?_⟩
        show _[w.heap.size + 1 + 1]? = _
        first | assumption | (simp (disch := (first | omega | (simp only [World.size_alloc, World.size_setCell] <;> omega))) only [x0, heapA_at, heapA_old, heapS_same, heapS_other, setObj, Option.map_some]; done)
      · intro r hr s hs h
        simp only [List.mem_singleton] at hr hs
        subst hr hs
        exact absurd rfl h
      simp only [List.take_succ_cons, List.take_zero, fillL, Act.put, List.setIfInBounds_toArray, List.set_cons_zero, List.set_cons_succ]
      apply seq_is (by kernel_rfl)
      · intro u wx hb hd
        have hz := hb.size
        (try simp only [World.size_alloc, World.size_setCell] at hz)
        have hz0 : w.heap.size < wx.heap.size := by omega
        have hz1 : w.heap.size + 1 < wx.heap.size := by omega
        have hz2 : w.heap.size + 1 + 1 < wx.heap.size := by omega
        obtain ⟨kc0, kf0⟩ := hb.cell (w.heap.size) (by first | omega | (simp <;> omega)) (by intro r hr; simp only [List.mem_singleton] at hr; subst hr; show w.heap.size + 1 + 1 ≠ w.heap.size; omega)
        obtain ⟨kc1, kf1⟩ := hb.cell (w.heap.size + 1) (by first | omega | (simp <;> omega)) (by intro r hr; simp only [List.mem_singleton] at hr; subst hr; show w.heap.size + 1 + 1 ≠ w.heap.size + 1; omega)
        clear hb hz
        simp [depsE, Region.binds, updE, kindOf, Prp.is, Prp.any] at hd
        go_simp
        first | exact ⟨Below.refl _ _, rfl⟩ | rfl
      apply seq_is (by kernel_rfl)
      · intro u wx hb hd
        have hz := hb.size
        (try simp only [World.size_alloc, World.size_setCell] at hz)
        have hz0 : w.heap.size < wx.heap.size := by omega
        have hz1 : w.heap.size + 1 < wx.heap.size := by omega
        have hz2 : w.heap.size + 1 + 1 < wx.heap.size := by omega
        obtain ⟨kc0, kf0⟩ := hb.cell (w.heap.size) (by first | omega | (simp <;> omega)) (by intro r hr; simp only [List.mem_singleton] at hr; subst hr; show w.heap.size + 1 + 1 ≠ w.heap.size; omega)
        obtain ⟨kc1, kf1⟩ := hb.cell (w.heap.size + 1) (by first | omega | (simp <;> omega)) (by intro r hr; simp only [List.mem_singleton] at hr; subst hr; show w.heap.size + 1 + 1 ≠ w.heap.size + 1; omega)
        clear hb hz
        simp [depsE, Region.binds, updE, kindOf, Prp.is, Prp.any] at hd
        go_simp
        first | exact ⟨Below.refl _ _, rfl⟩ | rfl
      apply seq_is (by kernel_rfl)
      · intro u wx hb hd
        have hz := hb.size
        (try simp only [World.size_alloc, World.size_setCell] at hz)
        have hz0 : w.heap.size < wx.heap.size := by omega
        have hz1 : w.heap.size + 1 < wx.heap.size := by omega
        have hz2 : w.heap.size + 1 + 1 < wx.heap.size := by omega
        obtain ⟨kc0, kf0⟩ := hb.cell (w.heap.size) (by first | omega | (simp <;> omega)) (by intro r hr; simp only [List.mem_singleton] at hr; subst hr; show w.heap.size + 1 + 1 ≠ w.heap.size; omega)
        obtain ⟨kc1, kf1⟩ := hb.cell (w.heap.size + 1) (by first | omega | (simp <;> omega)) (by intro r hr; simp only [List.mem_singleton] at hr; subst hr; show w.heap.size + 1 + 1 ≠ w.heap.size + 1; omega)
        clear hb hz
        simp [depsE, Region.binds, updE, kindOf, Prp.is, Prp.any] at hd
        go_simp
        first | exact ⟨Below.refl _ _, rfl⟩ | rfl
      apply seq_is (by kernel_rfl)
      · intro u wx hb hd
        have hz := hb.size
        (try simp only [World.size_alloc, World.size_setCell] at hz)
        have hz0 : w.heap.size < wx.heap.size := by omega
        have hz1 : w.heap.size + 1 < wx.heap.size := by omega
        have hz2 : w.heap.size + 1 + 1 < wx.heap.size := by omega
        obtain ⟨kc0, kf0⟩ := hb.cell (w.heap.size) (by first | omega | (simp <;> omega)) (by intro r hr; simp only [List.mem_singleton] at hr; subst hr; show w.heap.size + 1 + 1 ≠ w.heap.size; omega)
        obtain ⟨kc1, kf1⟩ := hb.cell (w.heap.size + 1) (by first | omega | (simp <;> omega)) (by intro r hr; simp only [List.mem_singleton] at hr; subst hr; show w.heap.size + 1 + 1 ≠ w.heap.size + 1; omega)
        clear hb hz
        simp [depsE, Region.binds, updE, kindOf, Prp.is, Prp.any] at hd
        go_simp
        first | exact ⟨Below.refl _ _, rfl⟩ | rfl
      apply seq_is (by kernel_rfl)
      · intro u wx hb hd
        have hz := hb.size
        (try simp only [World.size_alloc, World.size_setCell] at hz)
        have hz0 : w.heap.size < wx.heap.size := by omega
        have hz1 : w.heap.size + 1 < wx.heap.size := by omega
        have hz2 : w.heap.size + 1 + 1 < wx.heap.size := by omega
        obtain ⟨kc0, kf0⟩ := hb.cell (w.heap.size) (by first | omega | (simp <;> omega)) (by intro r hr; simp only [List.mem_singleton] at hr; subst hr; show w.heap.size + 1 + 1 ≠ w.heap.size; omega)
        obtain ⟨kc1, kf1⟩ := hb.cell (w.heap.size + 1) (by first | omega | (simp <;> omega)) (by intro r hr; simp only [List.mem_singleton] at hr; subst hr; show w.heap.size + 1 + 1 ≠ w.heap.size + 1; omega)
        clear hb hz
        simp [depsE, Region.binds, updE, kindOf, Prp.is, Prp.any] at hd
        go_simp
        first | exact ⟨Below.refl _ _, rfl⟩ | rfl
      apply seq_is (by kernel_rfl)
      · intro u wx hb hd
        have hz := hb.size
        (try simp only [World.size_alloc, World.size_setCell] at hz)
        have hz0 : w.heap.size < wx.heap.size := by omega
        have hz1 : w.heap.size + 1 < wx.heap.size := by omega
        have hz2 : w.heap.size + 1 + 1 < wx.heap.size := by omega
        obtain ⟨kc0, kf0⟩ := hb.cell (w.heap.size) (by first | omega | (simp <;> omega)) (by intro r hr; simp only [List.mem_singleton] at hr; subst hr; show w.heap.size + 1 + 1 ≠ w.heap.size; omega)
        obtain ⟨kc1, kf1⟩ := hb.cell (w.heap.size + 1) (by first | omega | (simp <;> omega)) (by intro r hr; simp only [List.mem_singleton] at hr; subst hr; show w.heap.size + 1 + 1 ≠ w.heap.size + 1; omega)
        clear hb hz
        simp [depsE, Region.binds, updE, kindOf, Prp.is, Prp.any] at hd
        go_simp
        first | exact ⟨Below.refl _ _, rfl⟩ | rfl
      apply seq_is (by kernel_rfl)
      · intro u wx hb hd
        have hz := hb.size
        (try simp only [World.size_alloc, World.size_setCell] at hz)
        have hz0 : w.heap.size < wx.heap.size := by omega
        have hz1 : w.heap.size + 1 < wx.heap.size := by omega
        have hz2 : w.heap.size + 1 + 1 < wx.heap.size := by omega
        obtain ⟨kc0, kf0⟩ := hb.cell (w.heap.size) (by first | omega | (simp <;> omega)) (by intro r hr; simp only [List.mem_singleton] at hr; subst hr; show w.heap.size + 1 + 1 ≠ w.heap.size; omega)
        obtain ⟨kc1, kf1⟩ := hb.cell (w.heap.size + 1) (by first | omega | (simp <;> omega)) (by intro r hr; simp only [List.mem_singleton] at hr; subst hr; show w.heap.size + 1 + 1 ≠ w.heap.size + 1; omega)
        clear hb hz
        simp [depsE, Region.binds, updE, kindOf, Prp.is, Prp.any] at hd
        go_simp
        first | exact ⟨Below.refl _ _, rfl⟩ | rfl
      apply seq_is (by kernel_rfl)
      · intro u wx hb hd
        have hz := hb.size
        (try simp only [World.size_alloc, World.size_setCell] at hz)
        have hz0 : w.heap.size < wx.heap.size := by omega
        have hz1 : w.heap.size + 1 < wx.heap.size := by omega
        have hz2 : w.heap.size + 1 + 1 < wx.heap.size := by omega
        obtain ⟨kc0, kf0⟩ := hb.cell (w.heap.size) (by first | omega | (simp <;> omega)) (by intro r hr; simp only [List.mem_singleton] at hr; subst hr; show w.heap.size + 1 + 1 ≠ w.heap.size; omega)
        obtain ⟨kc1, kf1⟩ := hb.cell (w.heap.size + 1) (by first | omega | (simp <;> omega)) (by intro r hr; simp only [List.mem_singleton] at hr; subst hr; show w.heap.size + 1 + 1 ≠ w.heap.size + 1; omega)
        clear hb hz
        simp [depsE, Region.binds, updE, kindOf, Prp.is, Prp.any] at hd
        go_simp
        first | exact ⟨Below.refl _ _, rfl⟩ | rfl
      apply seq_is (by kernel_rfl)
      · intro u wx hb hd
        have hz := hb.size
        (try simp only [World.size_alloc, World.size_setCell] at hz)
        have hz0 : w.heap.size < wx.heap.size := by omega
        have hz1 : w.heap.size + 1 < wx.heap.size := by omega
        have hz2 : w.heap.size + 1 + 1 < wx.heap.size := by omega
        obtain ⟨kc0, kf0⟩ := hb.cell (w.heap.size) (by first | omega | (simp <;> omega)) (by intro r hr; simp only [List.mem_singleton] at hr; subst hr; show w.heap.size + 1 + 1 ≠ w.heap.size; omega)
        obtain ⟨kc1, kf1⟩ := hb.cell (w.heap.size + 1) (by first | omega | (simp <;> omega)) (by intro r hr; simp only [List.mem_singleton] at hr; subst hr; show w.heap.size + 1 + 1 ≠ w.heap.size + 1; omega)
        clear hb hz
        simp [depsE, Region.binds, updE, kindOf, Prp.is, Prp.any] at hd
        go_simp
        first | exact ⟨Below.refl _ _, rfl⟩ | rfl
      apply seq_is (by kernel_rfl)
      · intro u wx hb hd
        have hz := hb.size
        (try simp only [World.size_alloc, World.size_setCell] at hz)
        have hz0 : w.heap.size < wx.heap.size := by omega
        have hz1 : w.heap.size + 1 < wx.heap.size := by omega
        have hz2 : w.heap.size + 1 + 1 < wx.heap.size := by omega
        obtain ⟨kc0, kf0⟩ := hb.cell (w.heap.size) (by first | omega | (simp <;> omega)) (by intro r hr; simp only [List.mem_singleton] at hr; subst hr; show w.heap.size + 1 + 1 ≠ w.heap.size; omega)
        obtain ⟨kc1, kf1⟩ := hb.cell (w.heap.size + 1) (by first | omega | (simp <;> omega)) (by intro r hr; simp only [List.mem_singleton] at hr; subst hr; show w.heap.size + 1 + 1 ≠ w.heap.size + 1; omega)
        clear hb hz
        simp [depsE, Region.binds, updE, kindOf, Prp.is, Prp.any] at hd
        go_simp
        first | exact ⟨Below.refl _ _, rfl⟩ | rfl
      apply seq_is (by kernel_rfl)
      · intro u wx hb hd
        have hz := hb.size
        (try simp only [World.size_alloc, World.size_setCell] at hz)
        have hz0 : w.heap.size < wx.heap.size := by omega
        have hz1 : w.heap.size + 1 < wx.heap.size := by omega
        have hz2 : w.heap.size + 1 + 1 < wx.heap.size := by omega
        obtain ⟨kc0, kf0⟩ := hb.cell (w.heap.size) (by first | omega | (simp <;> omega)) (by intro r hr; simp only [List.mem_singleton] at hr; subst hr; show w.heap.size + 1 + 1 ≠ w.heap.size; omega)
        obtain ⟨kc1, kf1⟩ := hb.cell (w.heap.size + 1) (by first | omega | (simp <;> omega)) (by intro r hr; simp only [List.mem_singleton] at hr; subst hr; show w.heap.size + 1 + 1 ≠ w.heap.size + 1; omega)
        clear hb hz
        simp [depsE, Region.binds, updE, kindOf, Prp.is, Prp.any] at hd
        go_simp
        first | exact ⟨Below.refl _ _, rfl⟩ | rfl
      apply seq_is (by kernel_rfl)
      · intro u wx hb hd
        have hz := hb.size
        (try simp only [World.size_alloc, World.size_setCell] at hz)
        have hz0 : w.heap.size < wx.heap.size := by omega
        have hz1 : w.heap.size + 1 < wx.heap.size := by omega
        have hz2 : w.heap.size + 1 + 1 < wx.heap.size := by omega
        obtain ⟨kc0, kf0⟩ := hb.cell (w.heap.size) (by first | omega | (simp <;> omega)) (by intro r hr; simp only [List.mem_singleton] at hr; subst hr; show w.heap.size + 1 + 1 ≠ w.heap.size; omega)
        obtain ⟨kc1, kf1⟩ := hb.cell (w.heap.size + 1) (by first | omega | (simp <;> omega)) (by intro r hr; simp only [List.mem_singleton] at hr; subst hr; show w.heap.size + 1 + 1 ≠ w.heap.size + 1; omega)
        clear hb hz
        simp [depsE, Region.binds, updE, kindOf, Prp.is, Prp.any] at hd
        go_simp
        first | exact ⟨Below.refl _ _, rfl⟩ | rfl
      apply seq_is (by kernel_rfl)
      · intro u wx hb hd
        have hz := hb.size
        (try simp only [World.size_alloc, World.size_setCell] at hz)
        have hz0 : w.heap.size < wx.heap.size := by omega
        have hz1 : w.heap.size + 1 < wx.heap.size := by omega
        have hz2 : w.heap.size + 1 + 1 < wx.heap.size := by omega
        obtain ⟨kc0, kf0⟩ := hb.cell (w.heap.size) (by first | omega | (simp <;> omega)) (by intro r hr; simp only [List.mem_singleton] at hr; subst hr; show w.heap.size + 1 + 1 ≠ w.heap.size; omega)
        obtain ⟨kc1, kf1⟩ := hb.cell (w.heap.size + 1) (by first | omega | (simp <;> omega)) (by intro r hr; simp only [List.mem_singleton] at hr; subst hr; show w.heap.size + 1 + 1 ≠ w.heap.size + 1; omega)
        clear hb hz
        simp [depsE, Region.binds, updE, kindOf, Prp.is, Prp.any] at hd
        go_simp
        first | exact ⟨Below.refl _ _, rfl⟩ | rfl
      apply seq_pre_agg (cs := #[.int .u64 ((updF S j s) 0), .int .u64 ((updF S j s) 1), .int .u64 ((updF S j s) 2), .int .u64 ((updF S j s) 3)]) ⟨w.heap.size + 1 + 1, 13, #[.int .u64 (S 0), .int .u64 (S 1), .int .u64 (S 2), .int .u64 (S 3)], 31⟩ (by simp) rfl (by kernel_rfl) rfl
      · intro u wx hb hd
        have hz := hb.size
        (try simp only [World.size_alloc, World.size_setCell] at hz)
        have hz0 : w.heap.size < wx.heap.size := by omega
        have hz1 : w.heap.size + 1 < wx.heap.size := by omega
        have hz2 : w.heap.size + 1 + 1 < wx.heap.size := by omega
        obtain ⟨kc0, kf0⟩ := hb.cell (w.heap.size) (by first | omega | (simp <;> omega)) (by intro r hr; simp only [List.mem_singleton] at hr; subst hr; show w.heap.size + 1 + 1 ≠ w.heap.size; omega)
        obtain ⟨kc1, kf1⟩ := hb.cell (w.heap.size + 1) (by first | omega | (simp <;> omega)) (by intro r hr; simp only [List.mem_singleton] at hr; subst hr; show w.heap.size + 1 + 1 ≠ w.heap.size + 1; omega)
        clear hb hz
        simp [depsE, Region.binds, updE, kindOf, Prp.is, Prp.any] at hd
        refine ⟨by simp [Region.wanted], fun hcells => ?_⟩
        have hcells' : wx.heap[w.heap.size + 1 + 1]? = some (.cells #[.int .u64 (S 0), .int .u64 (S 1), .int .u64 (S 2), .int .u64 (S 3)] 31) := hcells
        have crx := (dig4_at hcells').1 j hlt
        have frx := (dig4_at hcells').2 j hlt
        have HCL := Lib.hid hcells'
        clear hcells hcells'
        go_simp
        have hst := (Stored.refl HCL.out).set j (.int .u64 s)
        rwa [lit4_upd S j s hlt] at hst
      intro u w5 hb hE hV hP
      have e0 : u 0 = _ := endE_get hE 0 (by decide) (by simp [kindOf])
      have e1 : u 1 = _ := endE_get hE 1 (by decide) (by simp [kindOf])
      have e2 : u 2 = _ := endE_get hE 2 (by decide) (by simp [kindOf])
      have e3 : u 3 = _ := endE_get hE 3 (by decide) (by simp [kindOf])
      have e4 : u 4 = _ := endE_get hE 4 (by decide) (by simp [kindOf])
      have e5 : u 5 = _ := endE_get hE 5 (by decide) (by simp [kindOf])
      have e6 : u 6 = _ := endE_get hE 6 (by decide) (by simp [kindOf])
      have e7 : u 7 = _ := endE_get hE 7 (by decide) (by simp [kindOf])
      have e8 : u 8 = _ := endE_get hE 8 (by decide) (by simp [kindOf])
      have e9 : u 9 = _ := endE_get hE 9 (by decide) (by simp [kindOf])
      have e10 : u 10 = _ := endE_get hE 10 (by decide) (by simp [kindOf])
      have e11 : u 11 = _ := endE_get hE 11 (by decide) (by simp [kindOf])
      have e12 : u 12 = _ := endE_get hE 12 (by decide) (by simp [kindOf])
      have e13 : u 13 = _ := endE_get hE 13 (by decide) (by simp [kindOf])
      clear hV
      have qp : w5.heap[w.heap.size + 1 + 1]? = some (.cells (u 13).cells 31) := hP.1
      rw [e13] at qp
      obtain ⟨mpw50, mpw51, mpw52, mpw53, mpfw5, mpsw5⟩ := cells_at4 qp
      have HPw5 := Lib.hid qp
      clear qp hP
      simp only [List.drop_succ_cons, List.drop_zero, List.take_succ_cons, List.take_zero, fillL, Act.put, List.setIfInBounds_toArray, List.set_cons_zero, List.set_cons_succ, e0, e1, e2, e3, e4, e5, e6, e7, e8, e9, e10, e11, e12, e13]
      clear e0 e1 e2 e3 e4 e5 e6 e7 e8 e9 e10 e11 e12 e13 hE
      have hw5 : Below w.heap.size w w5 := Below.trans (by first | assumption | go_grown) (hb.below (B := w.heap.size) (by first | omega | (simp <;> omega)) (by intro r hr; simp only [List.mem_singleton] at hr; subst hr; show w.heap.size ≤ w.heap.size + 1 + 1; omega))
      have hzw5 := hb.size
      (try simp only [World.size_alloc, World.size_setCell] at hzw5)
      have hzw50 : w.heap.size < w5.heap.size := by omega
      have hzw51 : w.heap.size + 1 < w5.heap.size := by omega
      have hzw52 : w.heap.size + 1 + 1 < w5.heap.size := by omega
      obtain ⟨hcw50, hfw50⟩ := hb.cell (w.heap.size) (by first | omega | (simp <;> omega)) (by intro r hr; simp only [List.mem_singleton] at hr; subst hr; show w.heap.size + 1 + 1 ≠ w.heap.size; omega)
      obtain ⟨hcw51, hfw51⟩ := hb.cell (w.heap.size + 1) (by first | omega | (simp <;> omega)) (by intro r hr; simp only [List.mem_singleton] at hr; subst hr; show w.heap.size + 1 + 1 ≠ w.heap.size + 1; omega)
      clear hb hzw5
      go_wp2
      go_roundw
      case rel =>
        refine ⟨j + 1, updF S j s, k', by omega, rfl, by go_num, HK.out, ?_, ?_, HPw5.out, fun q hq => (hcw50 q).trans (HX.out q hq), fun q hq => (hcw51 q).trans (HY.out q hq), by omega, hw5⟩
        · intro q hq
          unfold updF
          split
          · exact HS.out
          · exact HD.out q (by omega)
        · have h1 := HE.out
          have h2 := HQ.out
          rw [valN, valN, valN, pw, valN_congr (X := updF S j s) (Y := S) (fun q hq => by unfold updF; rw [if_neg (by omega)]), show updF S j s j = s by simp [updF]]
          grind
      case measure => simp [intOf]; omega
    · obtain rfl : j = 4 := by omega
      obtain ⟨c0, c1, c2, c3, ff, -⟩ := cells_at4 HRB.out
      clear hB
      go_wp2
      all_goals (refine bodyPost_ret (v := .tuple #[.agg #[.int .u64 (S 0), .int .u64 (S 1), .int .u64 (S 2), .int .u64 (S 3)], .int .u64 k]) (by simp (maxDischargeDepth := 9) [results, Try.results73, go_sem, *]) rfl ?_)
      exact ⟨S, k, rfl, HD.out, hk, HE.out, (((HBr.out.setCell (by dsimp only; omega) _).setCell (by dsimp only; omega) _).setCell (by dsimp only; omega) _).setCell (by dsimp only; omega) _⟩

set_option maxHeartbeats 4000000 in
theorem minus_any (X Y : Nat → Int) (w : World) (hx : dig 18446744073709551616 4 X) (hy : dig 18446744073709551616 4 Y) :
    Calls Try.prog 72 #[.agg #[.int .u64 (X 0), .int .u64 (X 1), .int .u64 (X 2), .int .u64 (X 3)], .agg #[.int .u64 (Y 0), .int .u64 (Y 1), .int .u64 (Y 2), .int .u64 (Y 3)]] w fun e w' => ∃ (S : Nat → Int) (k : Int), e = .returned (.tuple #[.agg #[.int .u64 (S 0), .int .u64 (S 1), .int .u64 (S 2), .int .u64 (S 3)], .int .u64 k]) ∧ dig 18446744073709551616 4 S ∧ (0 ≤ k ∧ k ≤ 1) ∧ valN 18446744073709551616 S 4 - k * pw 18446744073709551616 4 = valN 18446744073709551616 X 4 - valN 18446744073709551616 Y 4 ∧ Below w.heap.size w w' := by
  have HDX := Lib.hid hx
  have HDY := Lib.hid hy
  clear hx hy
  go_enter Try.func72, Try.ntmps72
  go_wp2
  go_loopw [5, 7] (fun c i wr => ∃ (j : Nat) (S : Nat → Int) (k : Int), j ≤ 4 ∧ c = .int .u64 k ∧ i = .int .i64 j ∧ (0 ≤ k ∧ k ≤ 1) ∧ dig 18446744073709551616 j S ∧ valN 18446744073709551616 S j - k * pw 18446744073709551616 j = valN 18446744073709551616 X j - valN 18446744073709551616 Y j ∧ wr.heap[w.heap.size + 1 + 1]? = some (.cells #[.int .u64 (S 0), .int .u64 (S 1), .int .u64 (S 2), .int .u64 (S 3)] 31) ∧ DigAt wr w.heap.size 4 X ∧ DigAt wr (w.heap.size + 1) 4 Y ∧ w.heap.size + 1 + 1 < wr.heap.size ∧ Below w.heap.size w wr) (fun _ i _ => 4 - (intOf i).toNat)
  case atStart =>
    refine ⟨0, zeroF, 0, by omega, rfl, rfl, ⟨by decide, by decide⟩, fun k hk => absurd hk (by omega), by simp [valN], heapA_at _ _ _ (by simp), ?_, ?_, by simp <;> omega, by go_grown⟩
    · intro k hk
      match k, hk with
      | 0, _ => simp [go_sem]
      | 1, _ => simp [go_sem]
      | 2, _ => simp [go_sem]
      | 3, _ => simp [go_sem]
    · intro k hk
      match k, hk with
      | 0, _ => simp [go_sem]
      | 1, _ => simp [go_sem]
      | 2, _ => simp [go_sem]
      | 3, _ => simp [go_sem]
  case round =>
    obtain ⟨j, S, k, hj, rfl, rfl, hk, hd, he, hR, hX, hY, z2, hB⟩ := hrel
    have HBr := Lib.hid hB
    have HD := Lib.hid hd
    have HE := Lib.hid he
    have HRB := Lib.hid hR
    have HX := Lib.hid hX
    have HY := Lib.hid hY
    have z0 : w.heap.size < wr.heap.size := by omega
    have z1 : w.heap.size + 1 < wr.heap.size := by omega
    clear hd he hR hX hY
    by_cases hlt : j < 4
    · obtain ⟨s, k', hs, hk', hq, hadd⟩ := sub64_has (X j) (Y j) k (HDX.out j hlt) (HDY.out j hlt) hk
      have HQ := Lib.hid hq
      have HS := Lib.hid hs
      have HK := Lib.hid hk'
      have cx := HX.out j hlt
      have cy := HY.out j hlt
      have k0 : (0 : Int) ≤ (j : Int) := by omega
      have k1 : (j : Int) < 4 := by omega
      clear hq hs hk' hk
      go_wp2_with fail
      refine wp_region_seq 14 [] [⟨w.heap.size + 1 + 1, 13, #[.int .u64 (S 0), .int .u64 (S 1), .int .u64 (S 2), .int .u64 (S 3)], 31⟩] (by kernel_rfl) (by kernel_rfl) (by kernel_rfl) (by kernel_rfl) (by kernel_rfl) ?_ ?_ ?_
      · intro r hr
        simp only [List.mem_singleton] at hr
        subst hr
        have x0 := HRB.out
        refine ⟨by show w.heap.size + 1 + 1 < _; first | omega | (simp <;> omega), ?_⟩
        show _[w.heap.size + 1 + 1]? = _
        first | assumption | (simp (disch := (first | omega | (simp only [World.size_alloc, World.size_setCell] <;> omega))) only [x0, heapA_at, heapA_old, heapS_same, heapS_other, setObj, Option.map_some]; done)
      · intro r hr s hs h
        simp only [List.mem_singleton] at hr hs
        subst hr hs
        exact absurd rfl h
      simp only [List.take_succ_cons, List.take_zero, fillL, Act.put, List.setIfInBounds_toArray, List.set_cons_zero, List.set_cons_succ]
      apply seq_is (by kernel_rfl)
      · intro u wx hb hd
        have hz := hb.size
        (try simp only [World.size_alloc, World.size_setCell] at hz)
        have hz0 : w.heap.size < wx.heap.size := by omega
        have hz1 : w.heap.size + 1 < wx.heap.size := by omega
        have hz2 : w.heap.size + 1 + 1 < wx.heap.size := by omega
        obtain ⟨kc0, kf0⟩ := hb.cell (w.heap.size) (by first | omega | (simp <;> omega)) (by intro r hr; simp only [List.mem_singleton] at hr; subst hr; show w.heap.size + 1 + 1 ≠ w.heap.size; omega)
        obtain ⟨kc1, kf1⟩ := hb.cell (w.heap.size + 1) (by first | omega | (simp <;> omega)) (by intro r hr; simp only [List.mem_singleton] at hr; subst hr; show w.heap.size + 1 + 1 ≠ w.heap.size + 1; omega)
        clear hb hz
        simp [depsE, Region.binds, updE, kindOf, Prp.is, Prp.any] at hd
        go_simp
        first | exact ⟨Below.refl _ _, rfl⟩ | rfl
      apply seq_is (by kernel_rfl)
      · intro u wx hb hd
        have hz := hb.size
        (try simp only [World.size_alloc, World.size_setCell] at hz)
        have hz0 : w.heap.size < wx.heap.size := by omega
        have hz1 : w.heap.size + 1 < wx.heap.size := by omega
        have hz2 : w.heap.size + 1 + 1 < wx.heap.size := by omega
        obtain ⟨kc0, kf0⟩ := hb.cell (w.heap.size) (by first | omega | (simp <;> omega)) (by intro r hr; simp only [List.mem_singleton] at hr; subst hr; show w.heap.size + 1 + 1 ≠ w.heap.size; omega)
        obtain ⟨kc1, kf1⟩ := hb.cell (w.heap.size + 1) (by first | omega | (simp <;> omega)) (by intro r hr; simp only [List.mem_singleton] at hr; subst hr; show w.heap.size + 1 + 1 ≠ w.heap.size + 1; omega)
        clear hb hz
        simp [depsE, Region.binds, updE, kindOf, Prp.is, Prp.any] at hd
        go_simp
        first | exact ⟨Below.refl _ _, rfl⟩ | rfl
      apply seq_is (by kernel_rfl)
      · intro u wx hb hd
        have hz := hb.size
        (try simp only [World.size_alloc, World.size_setCell] at hz)
        have hz0 : w.heap.size < wx.heap.size := by omega
        have hz1 : w.heap.size + 1 < wx.heap.size := by omega
        have hz2 : w.heap.size + 1 + 1 < wx.heap.size := by omega
        obtain ⟨kc0, kf0⟩ := hb.cell (w.heap.size) (by first | omega | (simp <;> omega)) (by intro r hr; simp only [List.mem_singleton] at hr; subst hr; show w.heap.size + 1 + 1 ≠ w.heap.size; omega)
        obtain ⟨kc1, kf1⟩ := hb.cell (w.heap.size + 1) (by first | omega | (simp <;> omega)) (by intro r hr; simp only [List.mem_singleton] at hr; subst hr; show w.heap.size + 1 + 1 ≠ w.heap.size + 1; omega)
        clear hb hz
        simp [depsE, Region.binds, updE, kindOf, Prp.is, Prp.any] at hd
        go_simp
        first | exact ⟨Below.refl _ _, rfl⟩ | rfl
      apply seq_is (by kernel_rfl)
      · intro u wx hb hd
        have hz := hb.size
        (try simp only [World.size_alloc, World.size_setCell] at hz)
        have hz0 : w.heap.size < wx.heap.size := by omega
        have hz1 : w.heap.size + 1 < wx.heap.size := by omega
        have hz2 : w.heap.size + 1 + 1 < wx.heap.size := by omega
        obtain ⟨kc0, kf0⟩ := hb.cell (w.heap.size) (by first | omega | (simp <;> omega)) (by intro r hr; simp only [List.mem_singleton] at hr; subst hr; show w.heap.size + 1 + 1 ≠ w.heap.size; omega)
        obtain ⟨kc1, kf1⟩ := hb.cell (w.heap.size + 1) (by first | omega | (simp <;> omega)) (by intro r hr; simp only [List.mem_singleton] at hr; subst hr; show w.heap.size + 1 + 1 ≠ w.heap.size + 1; omega)
        clear hb hz
        simp [depsE, Region.binds, updE, kindOf, Prp.is, Prp.any] at hd
        go_simp
        first | exact ⟨Below.refl _ _, rfl⟩ | rfl
      apply seq_is (by kernel_rfl)
      · intro u wx hb hd
        have hz := hb.size
        (try simp only [World.size_alloc, World.size_setCell] at hz)
        have hz0 : w.heap.size < wx.heap.size := by omega
        have hz1 : w.heap.size + 1 < wx.heap.size := by omega
        have hz2 : w.heap.size + 1 + 1 < wx.heap.size := by omega
        obtain ⟨kc0, kf0⟩ := hb.cell (w.heap.size) (by first | omega | (simp <;> omega)) (by intro r hr; simp only [List.mem_singleton] at hr; subst hr; show w.heap.size + 1 + 1 ≠ w.heap.size; omega)
        obtain ⟨kc1, kf1⟩ := hb.cell (w.heap.size + 1) (by first | omega | (simp <;> omega)) (by intro r hr; simp only [List.mem_singleton] at hr; subst hr; show w.heap.size + 1 + 1 ≠ w.heap.size + 1; omega)
        clear hb hz
        simp [depsE, Region.binds, updE, kindOf, Prp.is, Prp.any] at hd
        go_simp
        first | exact ⟨Below.refl _ _, rfl⟩ | rfl
      apply seq_is (by kernel_rfl)
      · intro u wx hb hd
        have hz := hb.size
        (try simp only [World.size_alloc, World.size_setCell] at hz)
        have hz0 : w.heap.size < wx.heap.size := by omega
        have hz1 : w.heap.size + 1 < wx.heap.size := by omega
        have hz2 : w.heap.size + 1 + 1 < wx.heap.size := by omega
        obtain ⟨kc0, kf0⟩ := hb.cell (w.heap.size) (by first | omega | (simp <;> omega)) (by intro r hr; simp only [List.mem_singleton] at hr; subst hr; show w.heap.size + 1 + 1 ≠ w.heap.size; omega)
        obtain ⟨kc1, kf1⟩ := hb.cell (w.heap.size + 1) (by first | omega | (simp <;> omega)) (by intro r hr; simp only [List.mem_singleton] at hr; subst hr; show w.heap.size + 1 + 1 ≠ w.heap.size + 1; omega)
        clear hb hz
        simp [depsE, Region.binds, updE, kindOf, Prp.is, Prp.any] at hd
        go_simp
        first | exact ⟨Below.refl _ _, rfl⟩ | rfl
      apply seq_is (by kernel_rfl)
      · intro u wx hb hd
        have hz := hb.size
        (try simp only [World.size_alloc, World.size_setCell] at hz)
        have hz0 : w.heap.size < wx.heap.size := by omega
        have hz1 : w.heap.size + 1 < wx.heap.size := by omega
        have hz2 : w.heap.size + 1 + 1 < wx.heap.size := by omega
        obtain ⟨kc0, kf0⟩ := hb.cell (w.heap.size) (by first | omega | (simp <;> omega)) (by intro r hr; simp only [List.mem_singleton] at hr; subst hr; show w.heap.size + 1 + 1 ≠ w.heap.size; omega)
        obtain ⟨kc1, kf1⟩ := hb.cell (w.heap.size + 1) (by first | omega | (simp <;> omega)) (by intro r hr; simp only [List.mem_singleton] at hr; subst hr; show w.heap.size + 1 + 1 ≠ w.heap.size + 1; omega)
        clear hb hz
        simp [depsE, Region.binds, updE, kindOf, Prp.is, Prp.any] at hd
        go_simp
        first | exact ⟨Below.refl _ _, rfl⟩ | rfl
      apply seq_is (by kernel_rfl)
      · intro u wx hb hd
        have hz := hb.size
        (try simp only [World.size_alloc, World.size_setCell] at hz)
        have hz0 : w.heap.size < wx.heap.size := by omega
        have hz1 : w.heap.size + 1 < wx.heap.size := by omega
        have hz2 : w.heap.size + 1 + 1 < wx.heap.size := by omega
        obtain ⟨kc0, kf0⟩ := hb.cell (w.heap.size) (by first | omega | (simp <;> omega)) (by intro r hr; simp only [List.mem_singleton] at hr; subst hr; show w.heap.size + 1 + 1 ≠ w.heap.size; omega)
        obtain ⟨kc1, kf1⟩ := hb.cell (w.heap.size + 1) (by first | omega | (simp <;> omega)) (by intro r hr; simp only [List.mem_singleton] at hr; subst hr; show w.heap.size + 1 + 1 ≠ w.heap.size + 1; omega)
        clear hb hz
        simp [depsE, Region.binds, updE, kindOf, Prp.is, Prp.any] at hd
        go_simp
        first | exact ⟨Below.refl _ _, rfl⟩ | rfl
      apply seq_is (by kernel_rfl)
      · intro u wx hb hd
        have hz := hb.size
        (try simp only [World.size_alloc, World.size_setCell] at hz)
        have hz0 : w.heap.size < wx.heap.size := by omega
        have hz1 : w.heap.size + 1 < wx.heap.size := by omega
        have hz2 : w.heap.size + 1 + 1 < wx.heap.size := by omega
        obtain ⟨kc0, kf0⟩ := hb.cell (w.heap.size) (by first | omega | (simp <;> omega)) (by intro r hr; simp only [List.mem_singleton] at hr; subst hr; show w.heap.size + 1 + 1 ≠ w.heap.size; omega)
        obtain ⟨kc1, kf1⟩ := hb.cell (w.heap.size + 1) (by first | omega | (simp <;> omega)) (by intro r hr; simp only [List.mem_singleton] at hr; subst hr; show w.heap.size + 1 + 1 ≠ w.heap.size + 1; omega)
        clear hb hz
        simp [depsE, Region.binds, updE, kindOf, Prp.is, Prp.any] at hd
        go_simp
        first | exact ⟨Below.refl _ _, rfl⟩ | rfl
      apply seq_is (by kernel_rfl)
      · intro u wx hb hd
        have hz := hb.size
        (try simp only [World.size_alloc, World.size_setCell] at hz)
        have hz0 : w.heap.size < wx.heap.size := by omega
        have hz1 : w.heap.size + 1 < wx.heap.size := by omega
        have hz2 : w.heap.size + 1 + 1 < wx.heap.size := by omega
        obtain ⟨kc0, kf0⟩ := hb.cell (w.heap.size) (by first | omega | (simp <;> omega)) (by intro r hr; simp only [List.mem_singleton] at hr; subst hr; show w.heap.size + 1 + 1 ≠ w.heap.size; omega)
        obtain ⟨kc1, kf1⟩ := hb.cell (w.heap.size + 1) (by first | omega | (simp <;> omega)) (by intro r hr; simp only [List.mem_singleton] at hr; subst hr; show w.heap.size + 1 + 1 ≠ w.heap.size + 1; omega)
        clear hb hz
        simp [depsE, Region.binds, updE, kindOf, Prp.is, Prp.any] at hd
        go_simp
        first | exact ⟨Below.refl _ _, rfl⟩ | rfl
      apply seq_is (by kernel_rfl)
      · intro u wx hb hd
        have hz := hb.size
        (try simp only [World.size_alloc, World.size_setCell] at hz)
        have hz0 : w.heap.size < wx.heap.size := by omega
        have hz1 : w.heap.size + 1 < wx.heap.size := by omega
        have hz2 : w.heap.size + 1 + 1 < wx.heap.size := by omega
        obtain ⟨kc0, kf0⟩ := hb.cell (w.heap.size) (by first | omega | (simp <;> omega)) (by intro r hr; simp only [List.mem_singleton] at hr; subst hr; show w.heap.size + 1 + 1 ≠ w.heap.size; omega)
        obtain ⟨kc1, kf1⟩ := hb.cell (w.heap.size + 1) (by first | omega | (simp <;> omega)) (by intro r hr; simp only [List.mem_singleton] at hr; subst hr; show w.heap.size + 1 + 1 ≠ w.heap.size + 1; omega)
        clear hb hz
        simp [depsE, Region.binds, updE, kindOf, Prp.is, Prp.any] at hd
        go_simp
        first | exact ⟨Below.refl _ _, rfl⟩ | rfl
      apply seq_is (by kernel_rfl)
      · intro u wx hb hd
        have hz := hb.size
        (try simp only [World.size_alloc, World.size_setCell] at hz)
        have hz0 : w.heap.size < wx.heap.size := by omega
        have hz1 : w.heap.size + 1 < wx.heap.size := by omega
        have hz2 : w.heap.size + 1 + 1 < wx.heap.size := by omega
        obtain ⟨kc0, kf0⟩ := hb.cell (w.heap.size) (by first | omega | (simp <;> omega)) (by intro r hr; simp only [List.mem_singleton] at hr; subst hr; show w.heap.size + 1 + 1 ≠ w.heap.size; omega)
        obtain ⟨kc1, kf1⟩ := hb.cell (w.heap.size + 1) (by first | omega | (simp <;> omega)) (by intro r hr; simp only [List.mem_singleton] at hr; subst hr; show w.heap.size + 1 + 1 ≠ w.heap.size + 1; omega)
        clear hb hz
        simp [depsE, Region.binds, updE, kindOf, Prp.is, Prp.any] at hd
        go_simp
        first | exact ⟨Below.refl _ _, rfl⟩ | rfl
      apply seq_is (by kernel_rfl)
      · intro u wx hb hd
        have hz := hb.size
        (try simp only [World.size_alloc, World.size_setCell] at hz)
        have hz0 : w.heap.size < wx.heap.size := by omega
        have hz1 : w.heap.size + 1 < wx.heap.size := by omega
        have hz2 : w.heap.size + 1 + 1 < wx.heap.size := by omega
        obtain ⟨kc0, kf0⟩ := hb.cell (w.heap.size) (by first | omega | (simp <;> omega)) (by intro r hr; simp only [List.mem_singleton] at hr; subst hr; show w.heap.size + 1 + 1 ≠ w.heap.size; omega)
        obtain ⟨kc1, kf1⟩ := hb.cell (w.heap.size + 1) (by first | omega | (simp <;> omega)) (by intro r hr; simp only [List.mem_singleton] at hr; subst hr; show w.heap.size + 1 + 1 ≠ w.heap.size + 1; omega)
        clear hb hz
        simp [depsE, Region.binds, updE, kindOf, Prp.is, Prp.any] at hd
        go_simp
        first | exact ⟨Below.refl _ _, rfl⟩ | rfl
      apply seq_pre_agg (cs := #[.int .u64 ((updF S j s) 0), .int .u64 ((updF S j s) 1), .int .u64 ((updF S j s) 2), .int .u64 ((updF S j s) 3)]) ⟨w.heap.size + 1 + 1, 13, #[.int .u64 (S 0), .int .u64 (S 1), .int .u64 (S 2), .int .u64 (S 3)], 31⟩ (by simp) rfl (by kernel_rfl) rfl
      · intro u wx hb hd
        have hz := hb.size
        (try simp only [World.size_alloc, World.size_setCell] at hz)
        have hz0 : w.heap.size < wx.heap.size := by omega
        have hz1 : w.heap.size + 1 < wx.heap.size := by omega
        have hz2 : w.heap.size + 1 + 1 < wx.heap.size := by omega
        obtain ⟨kc0, kf0⟩ := hb.cell (w.heap.size) (by first | omega | (simp <;> omega)) (by intro r hr; simp only [List.mem_singleton] at hr; subst hr; show w.heap.size + 1 + 1 ≠ w.heap.size; omega)
        obtain ⟨kc1, kf1⟩ := hb.cell (w.heap.size + 1) (by first | omega | (simp <;> omega)) (by intro r hr; simp only [List.mem_singleton] at hr; subst hr; show w.heap.size + 1 + 1 ≠ w.heap.size + 1; omega)
        clear hb hz
        simp [depsE, Region.binds, updE, kindOf, Prp.is, Prp.any] at hd
        refine ⟨by simp [Region.wanted], fun hcells => ?_⟩
        have hcells' : wx.heap[w.heap.size + 1 + 1]? = some (.cells #[.int .u64 (S 0), .int .u64 (S 1), .int .u64 (S 2), .int .u64 (S 3)] 31) := hcells
        have crx := (dig4_at hcells').1 j hlt
        have frx := (dig4_at hcells').2 j hlt
        have HCL := Lib.hid hcells'
        clear hcells hcells'
        go_simp
        have hst := (Stored.refl HCL.out).set j (.int .u64 s)
        rwa [lit4_upd S j s hlt] at hst
      intro u w5 hb hE hV hP
      have e0 : u 0 = _ := endE_get hE 0 (by decide) (by simp [kindOf])
      have e1 : u 1 = _ := endE_get hE 1 (by decide) (by simp [kindOf])
      have e2 : u 2 = _ := endE_get hE 2 (by decide) (by simp [kindOf])
      have e3 : u 3 = _ := endE_get hE 3 (by decide) (by simp [kindOf])
      have e4 : u 4 = _ := endE_get hE 4 (by decide) (by simp [kindOf])
      have e5 : u 5 = _ := endE_get hE 5 (by decide) (by simp [kindOf])
      have e6 : u 6 = _ := endE_get hE 6 (by decide) (by simp [kindOf])
      have e7 : u 7 = _ := endE_get hE 7 (by decide) (by simp [kindOf])
      have e8 : u 8 = _ := endE_get hE 8 (by decide) (by simp [kindOf])
      have e9 : u 9 = _ := endE_get hE 9 (by decide) (by simp [kindOf])
      have e10 : u 10 = _ := endE_get hE 10 (by decide) (by simp [kindOf])
      have e11 : u 11 = _ := endE_get hE 11 (by decide) (by simp [kindOf])
      have e12 : u 12 = _ := endE_get hE 12 (by decide) (by simp [kindOf])
      have e13 : u 13 = _ := endE_get hE 13 (by decide) (by simp [kindOf])
      clear hV
      have qp : w5.heap[w.heap.size + 1 + 1]? = some (.cells (u 13).cells 31) := hP.1
      rw [e13] at qp
      obtain ⟨mpw50, mpw51, mpw52, mpw53, mpfw5, mpsw5⟩ := cells_at4 qp
      have HPw5 := Lib.hid qp
      clear qp hP
      simp only [List.drop_succ_cons, List.drop_zero, List.take_succ_cons, List.take_zero, fillL, Act.put, List.setIfInBounds_toArray, List.set_cons_zero, List.set_cons_succ, e0, e1, e2, e3, e4, e5, e6, e7, e8, e9, e10, e11, e12, e13]
      clear e0 e1 e2 e3 e4 e5 e6 e7 e8 e9 e10 e11 e12 e13 hE
      have hw5 : Below w.heap.size w w5 := Below.trans (by first | assumption | go_grown) (hb.below (B := w.heap.size) (by first | omega | (simp <;> omega)) (by intro r hr; simp only [List.mem_singleton] at hr; subst hr; show w.heap.size ≤ w.heap.size + 1 + 1; omega))
      have hzw5 := hb.size
      (try simp only [World.size_alloc, World.size_setCell] at hzw5)
      have hzw50 : w.heap.size < w5.heap.size := by omega
      have hzw51 : w.heap.size + 1 < w5.heap.size := by omega
      have hzw52 : w.heap.size + 1 + 1 < w5.heap.size := by omega
      obtain ⟨hcw50, hfw50⟩ := hb.cell (w.heap.size) (by first | omega | (simp <;> omega)) (by intro r hr; simp only [List.mem_singleton] at hr; subst hr; show w.heap.size + 1 + 1 ≠ w.heap.size; omega)
      obtain ⟨hcw51, hfw51⟩ := hb.cell (w.heap.size + 1) (by first | omega | (simp <;> omega)) (by intro r hr; simp only [List.mem_singleton] at hr; subst hr; show w.heap.size + 1 + 1 ≠ w.heap.size + 1; omega)
      clear hb hzw5
      go_wp2
      go_roundw
      case rel =>
        refine ⟨j + 1, updF S j s, k', by omega, rfl, by go_num, HK.out, ?_, ?_, HPw5.out, fun q hq => (hcw50 q).trans (HX.out q hq), fun q hq => (hcw51 q).trans (HY.out q hq), by omega, hw5⟩
        · intro q hq
          unfold updF
          split
          · exact HS.out
          · exact HD.out q (by omega)
        · have h1 := HE.out
          have h2 := HQ.out
          rw [valN, valN, valN, pw, valN_congr (X := updF S j s) (Y := S) (fun q hq => by unfold updF; rw [if_neg (by omega)]), show updF S j s j = s by simp [updF]]
          grind
      case measure => simp [intOf]; omega
    · obtain rfl : j = 4 := by omega
      obtain ⟨c0, c1, c2, c3, ff, -⟩ := cells_at4 HRB.out
      clear hB
      go_wp2
      all_goals (refine bodyPost_ret (v := .tuple #[.agg #[.int .u64 (S 0), .int .u64 (S 1), .int .u64 (S 2), .int .u64 (S 3)], .int .u64 k]) (by simp (maxDischargeDepth := 9) [results, Try.results72, go_sem, *]) rfl ?_)
      exact ⟨S, k, rfl, HD.out, hk, HE.out, (((HBr.out.setCell (by dsimp only; omega) _).setCell (by dsimp only; omega) _).setCell (by dsimp only; omega) _).setCell (by dsimp only; omega) _⟩

set_option maxHeartbeats 4000000 in
theorem signed_any (n : Bool) (m : Int) (X : Nat → Int) (w : World) (h : dig 18446744073709551616 4 X) (hv : valN 18446744073709551616 X 4 = m) :
    Calls Try.prog 52 #[.bool n, .agg #[.int .u64 (X 0), .int .u64 (X 1), .int .u64 (X 2), .int .u64 (X 3)]] w fun e w' => e = .returned (.agg #[.bool (sgB n m), .int .u64 (X 0), .int .u64 (X 1), .int .u64 (X 2), .int .u64 (X 3)]) ∧ Below w.heap.size w w' := by
  cases n with
  | false =>
    rw [show sgB false m = false from decide_eq_false (by have := valN_bd (by decide) h; simp; omega)]
    clear h hv
    go_enter Try.func52, Try.ntmps52
    go_wp2_with fail
    refine wp_region_relw 8 (by kernel_rfl) (by kernel_rfl) (by kernel_rfl) ?_
    simp only [List.take_succ_cons, List.take_zero, fillL, Act.put, List.setIfInBounds_toArray, List.set_cons_zero, List.set_cons_succ]
    iterate 8
      apply rel_is
      · intro u wx hb hd
        have hz := hb.size
        (try simp only [World.size_alloc, World.size_setCell] at hz)
        have hz0 : w.heap.size < wx.heap.size := by omega
        have hz1 : w.heap.size + 1 < wx.heap.size := by omega
        obtain ⟨hc, hf⟩ := bcell hb
        have HBX := Lib.hid hb
        clear hb hz
        simp [depsS, Region.binds, updS, Stay.is, Stay.any] at hd
        go_simp
        first | exact ⟨Below.refl _ _, rfl⟩ | rfl
    intro u w5 hb hE
    have e0 : u 0 = _ := endS_get hE 0 (by decide)
    have e1 : u 1 = _ := endS_get hE 1 (by decide)
    have e2 : u 2 = _ := endS_get hE 2 (by decide)
    have e3 : u 3 = _ := endS_get hE 3 (by decide)
    have e4 : u 4 = _ := endS_get hE 4 (by decide)
    have e5 : u 5 = _ := endS_get hE 5 (by decide)
    have e6 : u 6 = _ := endS_get hE 6 (by decide)
    have e7 : u 7 = _ := endS_get hE 7 (by decide)
    simp only [List.drop_succ_cons, List.drop_zero, List.take_succ_cons, List.take_zero, fillL, Act.put, List.setIfInBounds_toArray, List.set_cons_zero, List.set_cons_succ, e0, e1, e2, e3, e4, e5, e6, e7]
    clear e0 e1 e2 e3 e4 e5 e6 e7 hE
    have HBw5 := Lib.hid (below_step (w := w) (by first | assumption | go_grown) hb)
    have HBXw5 := Lib.hid hb
    have hzw5 := hb.size
    (try simp only [World.size_alloc, World.size_setCell] at hzw5)
    have hzw50 : w.heap.size < w5.heap.size := by omega
    have hzw51 : w.heap.size + 1 < w5.heap.size := by omega
    obtain ⟨hcw5, hfw5⟩ := bcell hb
    clear hb hzw5
    go_wp2
    all_goals (refine bodyPost_ret (v := .agg #[.bool false, .int .u64 (X 0), .int .u64 (X 1), .int .u64 (X 2), .int .u64 (X 3)]) (by simp (maxDischargeDepth := 9) [results, Try.results52, go_sem, *]) rfl ?_)
    refine ⟨rfl, ?_⟩
    exact (((((HBw5.out).setCell (show w.heap.size ≤ w.heap.size + 1 by omega) _).setCell (show w.heap.size ≤ w.heap.size + 1 by omega) _).setCell (show w.heap.size ≤ w.heap.size + 1 by omega) _).setCell (show w.heap.size ≤ w.heap.size + 1 by omega) _).setCell (show w.heap.size ≤ w.heap.size + 1 by omega) _
  | true =>
    obtain ⟨NZ, hNZ⟩ : ∃ b : Bool, sgB true m = b := ⟨_, rfl⟩
    have hz : ∀ W, (binOp .neq 31 (.agg #[.int .u64 (X 0), .int .u64 (X 1), .int .u64 (X 2), .int .u64 (X 3)]) (.agg #[.int .u64 0, .int .u64 0, .int .u64 0, .int .u64 0])).run Try.prog W = .ok (.bool NZ) W := fun W => by rw [mag_nz h hv, ← hNZ]; have := valN_bd (by decide) h; congr 2; unfold sgB; rw [if_pos rfl]; exact decide_eq_decide.2 (by omega)
    rw [hNZ]
    clear h hNZ hv
    go_enter Try.func52, Try.ntmps52
    go_wp2_with fail
    refine wp_region_relw 8 (by kernel_rfl) (by kernel_rfl) (by kernel_rfl) ?_
    simp only [List.take_succ_cons, List.take_zero, fillL, Act.put, List.setIfInBounds_toArray, List.set_cons_zero, List.set_cons_succ]
    iterate 8
      apply rel_is
      · intro u wx hb hd
        have hz := hb.size
        (try simp only [World.size_alloc, World.size_setCell] at hz)
        have hz0 : w.heap.size < wx.heap.size := by omega
        have hz1 : w.heap.size + 1 < wx.heap.size := by omega
        obtain ⟨hc, hf⟩ := bcell hb
        have HBX := Lib.hid hb
        clear hb hz
        simp [depsS, Region.binds, updS, Stay.is, Stay.any] at hd
        go_simp
        first | exact ⟨Below.refl _ _, rfl⟩ | rfl
    intro u w5 hb hE
    have e0 : u 0 = _ := endS_get hE 0 (by decide)
    have e1 : u 1 = _ := endS_get hE 1 (by decide)
    have e2 : u 2 = _ := endS_get hE 2 (by decide)
    have e3 : u 3 = _ := endS_get hE 3 (by decide)
    have e4 : u 4 = _ := endS_get hE 4 (by decide)
    have e5 : u 5 = _ := endS_get hE 5 (by decide)
    have e6 : u 6 = _ := endS_get hE 6 (by decide)
    have e7 : u 7 = _ := endS_get hE 7 (by decide)
    simp only [List.drop_succ_cons, List.drop_zero, List.take_succ_cons, List.take_zero, fillL, Act.put, List.setIfInBounds_toArray, List.set_cons_zero, List.set_cons_succ, e0, e1, e2, e3, e4, e5, e6, e7]
    clear e0 e1 e2 e3 e4 e5 e6 e7 hE
    have HBw5 := Lib.hid (below_step (w := w) (by first | assumption | go_grown) hb)
    have HBXw5 := Lib.hid hb
    have hzw5 := hb.size
    (try simp only [World.size_alloc, World.size_setCell] at hzw5)
    have hzw50 : w.heap.size < w5.heap.size := by omega
    have hzw51 : w.heap.size + 1 < w5.heap.size := by omega
    obtain ⟨hcw5, hfw5⟩ := bcell hb
    clear hb hzw5
    go_wp2
    all_goals (refine bodyPost_ret (v := .agg #[.bool NZ, .int .u64 (X 0), .int .u64 (X 1), .int .u64 (X 2), .int .u64 (X 3)]) (by simp (maxDischargeDepth := 9) [results, Try.results52, go_sem, *]) rfl ?_)
    refine ⟨rfl, ?_⟩
    exact (((((HBw5.out).setCell (show w.heap.size ≤ w.heap.size + 1 by omega) _).setCell (show w.heap.size ≤ w.heap.size + 1 by omega) _).setCell (show w.heap.size ≤ w.heap.size + 1 by omega) _).setCell (show w.heap.size ≤ w.heap.size + 1 by omega) _).setCell (show w.heap.size ≤ w.heap.size + 1 by omega) _

theorem negative_any (z : Int) (b : Bool) (X : Nat → Int) (w : World) (h : isW z b X) :
    Calls Try.prog 53 #[.agg #[.bool b, .int .u64 (X 0), .int .u64 (X 1), .int .u64 (X 2), .int .u64 (X 3)]] w fun e w' => e = .returned (.bool b) ∧ Below w.heap.size w w' := by
  have hz : b = true → ∀ W, (binOp .neq 31 (.agg #[.int .u64 (X 0), .int .u64 (X 1), .int .u64 (X 2), .int .u64 (X 3)]) (.agg #[.int .u64 0, .int .u64 0, .int .u64 0, .int .u64 0])).run Try.prog W = .ok (.bool true) W := fun hb W => by
    rw [mag_nz h.2.1 h.2.2, decide_eq_true]
    have := h.1
    rw [hb] at this
    have := of_decide_eq_true this.symm
    omega
  clear h
  cases b with
  | false =>
    clear hz
    go_enter Try.func53, Try.ntmps53
    go_wp2
    go_returns
    exact ⟨rfl, by go_grown⟩
  | true =>
    replace hz := hz rfl
    go_enter Try.func53, Try.ntmps53
    go_wp2
    go_returns
    exact ⟨rfl, by go_grown⟩

set_option maxHeartbeats 4000000 in
theorem compare_any (X Y : Nat → Int) (w : World) (hx : dig 18446744073709551616 4 X) (hy : dig 18446744073709551616 4 Y) :
    Calls Try.prog 54 #[.agg #[.int .u64 (X 0), .int .u64 (X 1), .int .u64 (X 2), .int .u64 (X 3)], .agg #[.int .u64 (Y 0), .int .u64 (Y 1), .int .u64 (Y 2), .int .u64 (Y 3)]] w fun e w' => e = .returned (.int .i64 (cmpI (valN 18446744073709551616 X 4) (valN 18446744073709551616 Y 4))) ∧ Below w.heap.size w w' := by
  have HDX := Lib.hid hx
  have HDY := Lib.hid hy
  clear hx hy
  obtain ⟨CC, hCC⟩ : ∃ c, cmpI (valN 18446744073709551616 X 4) (valN 18446744073709551616 Y 4) = c := ⟨_, rfl⟩
  have HCC := Lib.hid hCC
  rw [hCC]
  clear hCC
  go_enter Try.func54, Try.ntmps54
  go_wp2
  go_loopw [5] (fun i wr => ∃ j : Nat, j ≤ 4 ∧ i = .int .i64 ((j : Int) - 1) ∧ (∀ k, j ≤ k → k < 4 → X k = Y k) ∧ Below ((w.alloc (.cells #[.int .u64 (X 0), .int .u64 (X 1), .int .u64 (X 2), .int .u64 (X 3)] 31)).alloc (.cells #[.int .u64 (Y 0), .int .u64 (Y 1), .int .u64 (Y 2), .int .u64 (Y 3)] 31)).heap.size ((w.alloc (.cells #[.int .u64 (X 0), .int .u64 (X 1), .int .u64 (X 2), .int .u64 (X 3)] 31)).alloc (.cells #[.int .u64 (Y 0), .int .u64 (Y 1), .int .u64 (Y 2), .int .u64 (Y 3)] 31)) wr) (fun i _ => (intOf i + 1).toNat)
  case atStart => exact ⟨4, by omega, rfl, fun k h1 h2 => absurd h1 (by omega), Below.refl _ _⟩
  case round =>
    obtain ⟨j, hj, rfl, hq, hB⟩ := hrel
    have HBr : Hid (Below w.heap.size w wr) := by
      show Below _ _ _
      exact below_step (w := w) (by go_grown) hB
    have HBX := Lib.hid hB
    have HQ := Lib.hid hq
    have HX : Hid (DigAt wr w.heap.size 4 X) := by
      show DigAt _ _ _ _
      exact DigAt.below (w := ((w.alloc (.cells #[.int .u64 (X 0), .int .u64 (X 1), .int .u64 (X 2), .int .u64 (X 3)] 31)).alloc (.cells #[.int .u64 (Y 0), .int .u64 (Y 1), .int .u64 (Y 2), .int .u64 (Y 3)] 31))) (fun k hk => by match k, hk with
        | 0, _ => simp [go_sem]
        | 1, _ => simp [go_sem]
        | 2, _ => simp [go_sem]
        | 3, _ => simp [go_sem]
      ) hB (by simp <;> omega)
    have HY : Hid (DigAt wr (w.heap.size + 1) 4 Y) := by
      show DigAt _ _ _ _
      exact DigAt.below (w := ((w.alloc (.cells #[.int .u64 (X 0), .int .u64 (X 1), .int .u64 (X 2), .int .u64 (X 3)] 31)).alloc (.cells #[.int .u64 (Y 0), .int .u64 (Y 1), .int .u64 (Y 2), .int .u64 (Y 3)] 31))) (fun k hk => by match k, hk with
        | 0, _ => simp [go_sem]
        | 1, _ => simp [go_sem]
        | 2, _ => simp [go_sem]
        | 3, _ => simp [go_sem]
      ) hB (by simp <;> omega)
    have hs0 := hB.size
    (try simp only [World.size_alloc, World.size_setCell] at hs0)
    have z0 : w.heap.size < wr.heap.size := by omega
    have z1 : w.heap.size + 1 < wr.heap.size := by omega
    clear hq hB
    cases j with
    | zero =>
      have kg : decide ((0 : Int) ≤ -1) = false := by decide
      have HE : Hid (cmpI (valN 18446744073709551616 X 4) (valN 18446744073709551616 Y 4) = 0) := by
        show _ = _
        rw [valN_congr (fun k hk => HQ.out k (by omega) hk)]
        unfold cmpI
        rw [if_neg (by omega), if_neg (by omega)]
      simp only [show ((0 : Nat) : Int) - 1 = -1 from rfl] at *
      go_wp2
      go_returns
      rw [← HCC.out, HE.out]
      exact ⟨rfl, HBr.out⟩
    | succ i =>
      simp only [show ((i + 1 : Nat) : Int) - 1 = (i : Int) by omega]
      have hi : i < 4 := by omega
      have cx := HX.out i hi
      have cy := HY.out i hi
      have k0 : (0 : Int) ≤ (i : Int) := by omega
      have k1 : (i : Int) < 4 := by omega
      have kg : decide ((0 : Int) ≤ (i : Int)) = true := decide_eq_true k0
      by_cases hl : X i < Y i
      · have kl : decide (X i < Y i) = true := decide_eq_true hl
        have HE : Hid (cmpI (valN 18446744073709551616 X 4) (valN 18446744073709551616 Y 4) = -1) := if_pos (valN_lt (by decide) HDX.out HDY.out hi hl (fun k h1 h2 => HQ.out k (by omega) h2))
        go_wp2_with fail
        refine wp_region_relw 8 (by kernel_rfl) (by kernel_rfl) (by kernel_rfl) ?_
        simp only [List.take_succ_cons, List.take_zero, fillL, Act.put, List.setIfInBounds_toArray, List.set_cons_zero, List.set_cons_succ]
        iterate 8
          apply rel_is
          · intro u wx hb hd
            have hz := hb.size
            (try simp only [World.size_alloc, World.size_setCell] at hz)
            have hz0 : w.heap.size < wx.heap.size := by omega
            have hz1 : w.heap.size + 1 < wx.heap.size := by omega
            obtain ⟨hc, hf⟩ := bcell hb
            have HBX := Lib.hid hb
            clear hb hz
            simp [depsS, Region.binds, updS, Stay.is, Stay.any] at hd
            go_simp
            first | exact ⟨Below.refl _ _, rfl⟩ | rfl
        intro u w5 hb hE
        have e0 : u 0 = _ := endS_get hE 0 (by decide)
        have e1 : u 1 = _ := endS_get hE 1 (by decide)
        have e2 : u 2 = _ := endS_get hE 2 (by decide)
        have e3 : u 3 = _ := endS_get hE 3 (by decide)
        have e4 : u 4 = _ := endS_get hE 4 (by decide)
        have e5 : u 5 = _ := endS_get hE 5 (by decide)
        have e6 : u 6 = _ := endS_get hE 6 (by decide)
        have e7 : u 7 = _ := endS_get hE 7 (by decide)
        simp only [List.drop_succ_cons, List.drop_zero, List.take_succ_cons, List.take_zero, fillL, Act.put, List.setIfInBounds_toArray, List.set_cons_zero, List.set_cons_succ, e0, e1, e2, e3, e4, e5, e6, e7]
        clear e0 e1 e2 e3 e4 e5 e6 e7 hE
        have HBw5 := Lib.hid (below_step (w := wr) (by first | assumption | go_grown) hb)
        have HBXw5 := Lib.hid hb
        have hzw5 := hb.size
        (try simp only [World.size_alloc, World.size_setCell] at hzw5)
        have hzw50 : w.heap.size < w5.heap.size := by omega
        have hzw51 : w.heap.size + 1 < w5.heap.size := by omega
        obtain ⟨hcw5, hfw5⟩ := bcell hb
        clear hb hzw5
        have HBv : Hid (Below w.heap.size w w5) := below_step HBr.out HBXw5.out
        go_wp2
        go_returns
        rw [← HCC.out, HE.out]
        exact ⟨rfl, HBv.out⟩
      · have kl : decide (X i < Y i) = false := decide_eq_false hl
        by_cases hg : Y i < X i
        · have kl2 : decide (Y i < X i) = true := decide_eq_true hg
          have HE : Hid (cmpI (valN 18446744073709551616 X 4) (valN 18446744073709551616 Y 4) = 1) := by
            show _ = _
            have := valN_lt (by decide) HDY.out HDX.out hi hg (fun k h1 h2 => (HQ.out k (by omega) h2).symm)
            unfold cmpI
            rw [if_neg (by omega), if_pos this]
          go_wp2_with fail
          refine wp_region_relw 8 (by kernel_rfl) (by kernel_rfl) (by kernel_rfl) ?_
          simp only [List.take_succ_cons, List.take_zero, fillL, Act.put, List.setIfInBounds_toArray, List.set_cons_zero, List.set_cons_succ]
          iterate 8
            apply rel_is
            · intro u wx hb hd
              have hz := hb.size
              (try simp only [World.size_alloc, World.size_setCell] at hz)
              have hz0 : w.heap.size < wx.heap.size := by omega
              have hz1 : w.heap.size + 1 < wx.heap.size := by omega
              obtain ⟨hc, hf⟩ := bcell hb
              have HBX := Lib.hid hb
              clear hb hz
              simp [depsS, Region.binds, updS, Stay.is, Stay.any] at hd
              go_simp
              first | exact ⟨Below.refl _ _, rfl⟩ | rfl
          intro u w5 hb hE
          have e0 : u 0 = _ := endS_get hE 0 (by decide)
          have e1 : u 1 = _ := endS_get hE 1 (by decide)
          have e2 : u 2 = _ := endS_get hE 2 (by decide)
          have e3 : u 3 = _ := endS_get hE 3 (by decide)
          have e4 : u 4 = _ := endS_get hE 4 (by decide)
          have e5 : u 5 = _ := endS_get hE 5 (by decide)
          have e6 : u 6 = _ := endS_get hE 6 (by decide)
          have e7 : u 7 = _ := endS_get hE 7 (by decide)
          simp only [List.drop_succ_cons, List.drop_zero, List.take_succ_cons, List.take_zero, fillL, Act.put, List.setIfInBounds_toArray, List.set_cons_zero, List.set_cons_succ, e0, e1, e2, e3, e4, e5, e6, e7]
          clear e0 e1 e2 e3 e4 e5 e6 e7 hE
          have HBw5 := Lib.hid (below_step (w := wr) (by first | assumption | go_grown) hb)
          have HBXw5 := Lib.hid hb
          have hzw5 := hb.size
          (try simp only [World.size_alloc, World.size_setCell] at hzw5)
          have hzw50 : w.heap.size < w5.heap.size := by omega
          have hzw51 : w.heap.size + 1 < w5.heap.size := by omega
          obtain ⟨hcw5, hfw5⟩ := bcell hb
          clear hb hzw5
          have HBv : Hid (Below w.heap.size w w5) := below_step HBr.out HBXw5.out
          go_wp2_with fail
          refine wp_region_relw 8 (by kernel_rfl) (by kernel_rfl) (by kernel_rfl) ?_
          simp only [List.take_succ_cons, List.take_zero, fillL, Act.put, List.setIfInBounds_toArray, List.set_cons_zero, List.set_cons_succ]
          iterate 8
            apply rel_is
            · intro u wx hb hd
              have hz := hb.size
              (try simp only [World.size_alloc, World.size_setCell] at hz)
              have hz0 : w.heap.size < wx.heap.size := by omega
              have hz1 : w.heap.size + 1 < wx.heap.size := by omega
              obtain ⟨hc, hf⟩ := bcell hb
              have HBX := Lib.hid hb
              clear hb hz
              simp [depsS, Region.binds, updS, Stay.is, Stay.any] at hd
              go_simp
              first | exact ⟨Below.refl _ _, rfl⟩ | rfl
          intro u w6 hb hE
          have e0 : u 0 = _ := endS_get hE 0 (by decide)
          have e1 : u 1 = _ := endS_get hE 1 (by decide)
          have e2 : u 2 = _ := endS_get hE 2 (by decide)
          have e3 : u 3 = _ := endS_get hE 3 (by decide)
          have e4 : u 4 = _ := endS_get hE 4 (by decide)
          have e5 : u 5 = _ := endS_get hE 5 (by decide)
          have e6 : u 6 = _ := endS_get hE 6 (by decide)
          have e7 : u 7 = _ := endS_get hE 7 (by decide)
          simp only [List.drop_succ_cons, List.drop_zero, List.take_succ_cons, List.take_zero, fillL, Act.put, List.setIfInBounds_toArray, List.set_cons_zero, List.set_cons_succ, e0, e1, e2, e3, e4, e5, e6, e7]
          clear e0 e1 e2 e3 e4 e5 e6 e7 hE
          have HBw6 := Lib.hid (below_step (w := w5) (by first | assumption | go_grown) hb)
          have HBXw6 := Lib.hid hb
          have hzw6 := hb.size
          (try simp only [World.size_alloc, World.size_setCell] at hzw6)
          have hzw60 : w.heap.size < w6.heap.size := by omega
          have hzw61 : w.heap.size + 1 < w6.heap.size := by omega
          obtain ⟨hcw6, hfw6⟩ := bcell hb
          clear hb hzw6
          have HBz : Hid (Below w.heap.size w w6) := below_step HBv.out HBXw6.out
          go_wp2
          go_returns
          rw [← HCC.out, HE.out]
          exact ⟨rfl, HBz.out⟩
        · have kl2 : decide (Y i < X i) = false := decide_eq_false hg
          go_wp2_with fail
          refine wp_region_relw 8 (by kernel_rfl) (by kernel_rfl) (by kernel_rfl) ?_
          simp only [List.take_succ_cons, List.take_zero, fillL, Act.put, List.setIfInBounds_toArray, List.set_cons_zero, List.set_cons_succ]
          iterate 8
            apply rel_is
            · intro u wx hb hd
              have hz := hb.size
              (try simp only [World.size_alloc, World.size_setCell] at hz)
              have hz0 : w.heap.size < wx.heap.size := by omega
              have hz1 : w.heap.size + 1 < wx.heap.size := by omega
              obtain ⟨hc, hf⟩ := bcell hb
              have HBX := Lib.hid hb
              clear hb hz
              simp [depsS, Region.binds, updS, Stay.is, Stay.any] at hd
              go_simp
              first | exact ⟨Below.refl _ _, rfl⟩ | rfl
          intro u w5 hb hE
          have e0 : u 0 = _ := endS_get hE 0 (by decide)
          have e1 : u 1 = _ := endS_get hE 1 (by decide)
          have e2 : u 2 = _ := endS_get hE 2 (by decide)
          have e3 : u 3 = _ := endS_get hE 3 (by decide)
          have e4 : u 4 = _ := endS_get hE 4 (by decide)
          have e5 : u 5 = _ := endS_get hE 5 (by decide)
          have e6 : u 6 = _ := endS_get hE 6 (by decide)
          have e7 : u 7 = _ := endS_get hE 7 (by decide)
          simp only [List.drop_succ_cons, List.drop_zero, List.take_succ_cons, List.take_zero, fillL, Act.put, List.setIfInBounds_toArray, List.set_cons_zero, List.set_cons_succ, e0, e1, e2, e3, e4, e5, e6, e7]
          clear e0 e1 e2 e3 e4 e5 e6 e7 hE
          have HBw5 := Lib.hid (below_step (w := wr) (by first | assumption | go_grown) hb)
          have HBXw5 := Lib.hid hb
          have hzw5 := hb.size
          (try simp only [World.size_alloc, World.size_setCell] at hzw5)
          have hzw50 : w.heap.size < w5.heap.size := by omega
          have hzw51 : w.heap.size + 1 < w5.heap.size := by omega
          obtain ⟨hcw5, hfw5⟩ := bcell hb
          clear hb hzw5
          have HBv : Hid (Below w.heap.size w w5) := below_step HBr.out HBXw5.out
          go_wp2_with fail
          refine wp_region_relw 8 (by kernel_rfl) (by kernel_rfl) (by kernel_rfl) ?_
          simp only [List.take_succ_cons, List.take_zero, fillL, Act.put, List.setIfInBounds_toArray, List.set_cons_zero, List.set_cons_succ]
          iterate 8
            apply rel_is
            · intro u wx hb hd
              have hz := hb.size
              (try simp only [World.size_alloc, World.size_setCell] at hz)
              have hz0 : w.heap.size < wx.heap.size := by omega
              have hz1 : w.heap.size + 1 < wx.heap.size := by omega
              obtain ⟨hc, hf⟩ := bcell hb
              have HBX := Lib.hid hb
              clear hb hz
              simp [depsS, Region.binds, updS, Stay.is, Stay.any] at hd
              go_simp
              first | exact ⟨Below.refl _ _, rfl⟩ | rfl
          intro u w6 hb hE
          have e0 : u 0 = _ := endS_get hE 0 (by decide)
          have e1 : u 1 = _ := endS_get hE 1 (by decide)
          have e2 : u 2 = _ := endS_get hE 2 (by decide)
          have e3 : u 3 = _ := endS_get hE 3 (by decide)
          have e4 : u 4 = _ := endS_get hE 4 (by decide)
          have e5 : u 5 = _ := endS_get hE 5 (by decide)
          have e6 : u 6 = _ := endS_get hE 6 (by decide)
          have e7 : u 7 = _ := endS_get hE 7 (by decide)
          simp only [List.drop_succ_cons, List.drop_zero, List.take_succ_cons, List.take_zero, fillL, Act.put, List.setIfInBounds_toArray, List.set_cons_zero, List.set_cons_succ, e0, e1, e2, e3, e4, e5, e6, e7]
          clear e0 e1 e2 e3 e4 e5 e6 e7 hE
          have HBw6 := Lib.hid (below_step (w := w5) (by first | assumption | go_grown) hb)
          have HBXw6 := Lib.hid hb
          have hzw6 := hb.size
          (try simp only [World.size_alloc, World.size_setCell] at hzw6)
          have hzw60 : w.heap.size < w6.heap.size := by omega
          have hzw61 : w.heap.size + 1 < w6.heap.size := by omega
          obtain ⟨hcw6, hfw6⟩ := bcell hb
          clear hb hzw6
          have HBz : Hid (Below w.heap.size w w6) := below_step HBv.out HBXw6.out
          go_wp2
          go_roundw
          case rel => exact ⟨i, by omega, by first | rfl | go_num, (fun k h1 h2 => by
            by_cases hk : k = i
            · subst hk; omega
            · exact HQ.out k (by omega) h2), below_step (below_step HBX.out HBXw5.out) HBXw6.out⟩
          case measure => simp [intOf] <;> omega

set_option maxHeartbeats 4000000 in
theorem Of_any (n : Int) (w : World) (h : -9223372036854775808 ≤ n ∧ n < 9223372036854775808) :
    Calls Try.prog 26 #[.int .i64 n] w fun e w' => ∃ X : Nat → Int, e = .returned (.agg #[.bool (decide (n < 0)), .int .u64 (X 0), .int .u64 (X 1), .int .u64 (X 2), .int .u64 (X 3)]) ∧ isW n (decide (n < 0)) X ∧ Below w.heap.size w w' := by
  by_cases hn : n < 0
  · have h1 : IntKind.u64.wrap n = n + 18446744073709551616 := by rw [IntKind.wrap_u64]; omega
    have h2 : IntKind.u64.wrap (-(n + 18446744073709551616)) = -n := by rw [IntKind.wrap_u64]; omega
    have kn : decide (n < 0) = true := decide_eq_true (by omega)
    have HDG : Hid (dig 18446744073709551616 4 (oneF (-n))) := dig_one (by decide) (by omega) 4
    have HV : Hid (valN 18446744073709551616 (oneF (-n)) 4 = (-n)) := val_one 3
    have HI : Hid (isW n true (oneF (-n))) := by
      have h := isW_sg (n := true) HDG.out HV.out
      rw [show (if true = true then -(-n) else (-n)) = n by simp, show sgB true (-n) = true from by unfold sgB; simp; omega] at h
      exact h
    rw [kn]
    have hsg : sgB true (-n) = true := by unfold sgB; simp; omega
    have HSG := Lib.hid hsg
    clear hsg
    go_enter Try.func26, Try.ntmps26
    go_wp2_with fail
    (go_at_call 52; refine (signed_any true (-n) (oneF (-n)) _ HDG.out HV.out).mono ?_; rintro e_ w1 ⟨rfl, hb⟩)
    rw [HSG.out]
    have hsw1 := hb.size
    (try simp only [World.size_alloc, World.size_setCell] at hsw1)
    have zzw1 : w.heap.size < w1.heap.size := by omega
    have hPw1 : Below w.heap.size w w1 := below_step (w := w) (by first | exact Below.refl _ _ | go_grown) hb
    have zrw1 : w.heap.size < w1.heap.size := by omega
    have r0w1 : w1.cell? ⟨w.heap.size, 0, none⟩ = some (.bool false) := (hb.cell (p := ⟨_, _, none⟩) (by simp <;> omega)).trans (by simp [go_sem])
    have r1w1 : w1.cell? ⟨w.heap.size, 1, none⟩ = some (.int .u64 0) := (hb.cell (p := ⟨_, _, none⟩) (by simp <;> omega)).trans (by simp [go_sem])
    have r2w1 : w1.cell? ⟨w.heap.size, 2, none⟩ = some (.int .u64 0) := (hb.cell (p := ⟨_, _, none⟩) (by simp <;> omega)).trans (by simp [go_sem])
    have r3w1 : w1.cell? ⟨w.heap.size, 3, none⟩ = some (.int .u64 0) := (hb.cell (p := ⟨_, _, none⟩) (by simp <;> omega)).trans (by simp [go_sem])
    have r4w1 : w1.cell? ⟨w.heap.size, 4, none⟩ = some (.int .u64 0) := (hb.cell (p := ⟨_, _, none⟩) (by simp <;> omega)).trans (by simp [go_sem])
    have fr0w1 : w1.frozen? ⟨w.heap.size, 0, none⟩ = false := (hb.frozen (p := ⟨_, _, none⟩) (by simp <;> omega)).trans (by simp [go_sem])
    have fr1w1 : w1.frozen? ⟨w.heap.size, 1, none⟩ = false := (hb.frozen (p := ⟨_, _, none⟩) (by simp <;> omega)).trans (by simp [go_sem])
    have fr2w1 : w1.frozen? ⟨w.heap.size, 2, none⟩ = false := (hb.frozen (p := ⟨_, _, none⟩) (by simp <;> omega)).trans (by simp [go_sem])
    have fr3w1 : w1.frozen? ⟨w.heap.size, 3, none⟩ = false := (hb.frozen (p := ⟨_, _, none⟩) (by simp <;> omega)).trans (by simp [go_sem])
    have fr4w1 : w1.frozen? ⟨w.heap.size, 4, none⟩ = false := (hb.frozen (p := ⟨_, _, none⟩) (by simp <;> omega)).trans (by simp [go_sem])
    have hBw1 : Below w.heap.size w w1 := below_step (w := w) (by first | assumption | go_grown) hb
    clear hb hsw1 hPw1
    go_wp2
    all_goals (refine bodyPost_ret (v := .agg #[.bool true, .int .u64 (oneF (-n) 0), .int .u64 (oneF (-n) 1), .int .u64 (oneF (-n) 2), .int .u64 (oneF (-n) 3)]) (by simp (maxDischargeDepth := 9) [results, Try.results26, go_sem, *]) rfl ?_)
    exact ⟨_, rfl, HI.out, by go_grown⟩
  · have h1 : IntKind.u64.wrap n = n := by rw [IntKind.wrap_u64]; omega
    have kn : decide (n < 0) = false := decide_eq_false (by omega)
    have HDG : Hid (dig 18446744073709551616 4 (oneF n)) := dig_one (by decide) (by omega) 4
    have HV : Hid (valN 18446744073709551616 (oneF n) 4 = n) := val_one 3
    have HI : Hid (isW n false (oneF n)) := by
      have h := isW_sg (n := false) HDG.out HV.out
      rw [show (if false = true then -n else n) = n by simp, show sgB false n = false from by unfold sgB; simp; omega] at h
      exact h
    rw [kn]
    have hsg : sgB false n = false := by unfold sgB; simp; omega
    have HSG := Lib.hid hsg
    clear hsg
    go_enter Try.func26, Try.ntmps26
    go_wp2_with fail
    (go_at_call 52; refine (signed_any false n (oneF n) _ HDG.out HV.out).mono ?_; rintro e_ w1 ⟨rfl, hb⟩)
    rw [HSG.out]
    have hsw1 := hb.size
    (try simp only [World.size_alloc, World.size_setCell] at hsw1)
    have zzw1 : w.heap.size < w1.heap.size := by omega
    have hPw1 : Below w.heap.size w w1 := below_step (w := w) (by first | exact Below.refl _ _ | go_grown) hb
    have zrw1 : w.heap.size < w1.heap.size := by omega
    have r0w1 : w1.cell? ⟨w.heap.size, 0, none⟩ = some (.bool false) := (hb.cell (p := ⟨_, _, none⟩) (by simp <;> omega)).trans (by simp [go_sem])
    have r1w1 : w1.cell? ⟨w.heap.size, 1, none⟩ = some (.int .u64 0) := (hb.cell (p := ⟨_, _, none⟩) (by simp <;> omega)).trans (by simp [go_sem])
    have r2w1 : w1.cell? ⟨w.heap.size, 2, none⟩ = some (.int .u64 0) := (hb.cell (p := ⟨_, _, none⟩) (by simp <;> omega)).trans (by simp [go_sem])
    have r3w1 : w1.cell? ⟨w.heap.size, 3, none⟩ = some (.int .u64 0) := (hb.cell (p := ⟨_, _, none⟩) (by simp <;> omega)).trans (by simp [go_sem])
    have r4w1 : w1.cell? ⟨w.heap.size, 4, none⟩ = some (.int .u64 0) := (hb.cell (p := ⟨_, _, none⟩) (by simp <;> omega)).trans (by simp [go_sem])
    have fr0w1 : w1.frozen? ⟨w.heap.size, 0, none⟩ = false := (hb.frozen (p := ⟨_, _, none⟩) (by simp <;> omega)).trans (by simp [go_sem])
    have fr1w1 : w1.frozen? ⟨w.heap.size, 1, none⟩ = false := (hb.frozen (p := ⟨_, _, none⟩) (by simp <;> omega)).trans (by simp [go_sem])
    have fr2w1 : w1.frozen? ⟨w.heap.size, 2, none⟩ = false := (hb.frozen (p := ⟨_, _, none⟩) (by simp <;> omega)).trans (by simp [go_sem])
    have fr3w1 : w1.frozen? ⟨w.heap.size, 3, none⟩ = false := (hb.frozen (p := ⟨_, _, none⟩) (by simp <;> omega)).trans (by simp [go_sem])
    have fr4w1 : w1.frozen? ⟨w.heap.size, 4, none⟩ = false := (hb.frozen (p := ⟨_, _, none⟩) (by simp <;> omega)).trans (by simp [go_sem])
    have hBw1 : Below w.heap.size w w1 := below_step (w := w) (by first | assumption | go_grown) hb
    clear hb hsw1 hPw1
    go_wp2
    all_goals (refine bodyPost_ret (v := .agg #[.bool false, .int .u64 (oneF n 0), .int .u64 (oneF n 1), .int .u64 (oneF n 2), .int .u64 (oneF n 3)]) (by simp (maxDischargeDepth := 9) [results, Try.results26, go_sem, *]) rfl ?_)
    exact ⟨_, rfl, HI.out, by go_grown⟩

set_option maxHeartbeats 4000000 in
theorem Cmp_any (x y : Int) (bx by' : Bool) (X Y : Nat → Int) (w : World) (hx : isW x bx X) (hy : isW y by' Y) :
    Calls Try.prog 28 #[.agg #[.bool bx, .int .u64 (X 0), .int .u64 (X 1), .int .u64 (X 2), .int .u64 (X 3)], .agg #[.bool by', .int .u64 (Y 0), .int .u64 (Y 1), .int .u64 (Y 2), .int .u64 (Y 3)]] w fun e w' => e = .returned (.int .i64 (cmpI x y)) ∧ Below w.heap.size w w' := by
  have HX := Lib.hid hx
  have HY := Lib.hid hy
  obtain ⟨CC, hCC⟩ : ∃ c, cmpI x y = c := ⟨_, rfl⟩
  have HCC := Lib.hid hCC
  rw [hCC]
  clear hCC hx hy
  cases bx with
  | true =>
    cases by' with
    | true =>
      have hx1 := HX.out.1
      have hy1 := HY.out.1
      have hx2 := of_decide_eq_true hx1.symm
      have hy2 := of_decide_eq_true hy1.symm
      have HE : Hid (cmpI (valN 18446744073709551616 Y 4) (valN 18446744073709551616 X 4) = CC) := by
        show _ = _
        rw [← HCC.out, HY.out.2.2, HX.out.2.2]
        unfold cmpI
        split <;> split <;> (try split) <;> (try split) <;> omega
      clear hx1 hy1 hx2 hy2
      go_enter Try.func28, Try.ntmps28
      go_wp2_with fail
      refine wp_region_relw 6 (by kernel_rfl) (by kernel_rfl) (by kernel_rfl) ?_
      simp only [List.take_succ_cons, List.take_zero, fillL, Act.put, List.setIfInBounds_toArray, List.set_cons_zero, List.set_cons_succ]
      apply rel_is
      · intro u wx hb hd
        have hz := hb.size
        (try simp only [World.size_alloc, World.size_setCell] at hz)
        have hz0 : w.heap.size < wx.heap.size := by omega
        have hz1 : w.heap.size + 1 < wx.heap.size := by omega
        obtain ⟨hc, hf⟩ := bcell hb
        have HBX := Lib.hid hb
        clear hb hz
        simp [depsS, Region.binds, updS, Stay.is, Stay.any] at hd
        go_simp
        first | exact ⟨Below.refl _ _, rfl⟩ | rfl
      apply rel_is
      · intro u wx hb hd
        have hz := hb.size
        (try simp only [World.size_alloc, World.size_setCell] at hz)
        have hz0 : w.heap.size < wx.heap.size := by omega
        have hz1 : w.heap.size + 1 < wx.heap.size := by omega
        obtain ⟨hc, hf⟩ := bcell hb
        have HBX := Lib.hid hb
        clear hb hz
        simp [depsS, Region.binds, updS, Stay.is, Stay.any] at hd
        go_simp
        first | rfl | (go_at_call 53; refine (negative_any x _ X _ HX.out).mono ?_; rintro e w1 ⟨rfl, hb1⟩; first | exact ⟨rfl, hb1⟩ | exact ⟨_, rfl, hb1, rfl⟩)
      apply rel_is
      · intro u wx hb hd
        have hz := hb.size
        (try simp only [World.size_alloc, World.size_setCell] at hz)
        have hz0 : w.heap.size < wx.heap.size := by omega
        have hz1 : w.heap.size + 1 < wx.heap.size := by omega
        obtain ⟨hc, hf⟩ := bcell hb
        have HBX := Lib.hid hb
        clear hb hz
        simp [depsS, Region.binds, updS, Stay.is, Stay.any] at hd
        go_simp
        first | exact ⟨Below.refl _ _, rfl⟩ | rfl
      apply rel_is
      · intro u wx hb hd
        have hz := hb.size
        (try simp only [World.size_alloc, World.size_setCell] at hz)
        have hz0 : w.heap.size < wx.heap.size := by omega
        have hz1 : w.heap.size + 1 < wx.heap.size := by omega
        obtain ⟨hc, hf⟩ := bcell hb
        have HBX := Lib.hid hb
        clear hb hz
        simp [depsS, Region.binds, updS, Stay.is, Stay.any] at hd
        go_simp
        first | rfl | (go_at_call 53; refine (negative_any y _ Y _ HY.out).mono ?_; rintro e w1 ⟨rfl, hb1⟩; first | exact ⟨rfl, hb1⟩ | exact ⟨_, rfl, hb1, rfl⟩)
      iterate 2
        apply rel_is
        · intro u wx hb hd
          have hz := hb.size
          (try simp only [World.size_alloc, World.size_setCell] at hz)
          have hz0 : w.heap.size < wx.heap.size := by omega
          have hz1 : w.heap.size + 1 < wx.heap.size := by omega
          obtain ⟨hc, hf⟩ := bcell hb
          have HBX := Lib.hid hb
          clear hb hz
          simp [depsS, Region.binds, updS, Stay.is, Stay.any] at hd
          go_simp
          first | exact ⟨Below.refl _ _, rfl⟩ | rfl
      intro u w5 hb hE
      have e0 : u 0 = _ := endS_get hE 0 (by decide)
      have e1 : u 1 = _ := endS_get hE 1 (by decide)
      have e2 : u 2 = _ := endS_get hE 2 (by decide)
      have e3 : u 3 = _ := endS_get hE 3 (by decide)
      have e4 : u 4 = _ := endS_get hE 4 (by decide)
      have e5 : u 5 = _ := endS_get hE 5 (by decide)
      simp only [List.drop_succ_cons, List.drop_zero, List.take_succ_cons, List.take_zero, fillL, Act.put, List.setIfInBounds_toArray, List.set_cons_zero, List.set_cons_succ, e0, e1, e2, e3, e4, e5]
      clear e0 e1 e2 e3 e4 e5 hE
      have HBw5 := Lib.hid (below_step (w := w) (by first | assumption | go_grown) hb)
      have HBXw5 := Lib.hid hb
      have hzw5 := hb.size
      (try simp only [World.size_alloc, World.size_setCell] at hzw5)
      have hzw50 : w.heap.size < w5.heap.size := by omega
      have hzw51 : w.heap.size + 1 < w5.heap.size := by omega
      obtain ⟨hcw5, hfw5⟩ := bcell hb
      clear hb hzw5
      go_wp2_with fail
      (go_at_call 54; refine (compare_any Y X _ HY.out.2.1 HX.out.2.1).mono ?_; rintro e_ w6 ⟨rfl, hb⟩)
      rw [HE.out]
      have hB6 : Below w.heap.size w w6 := below_step HBw5.out hb
      clear hb
      go_wp2
      go_returns
      exact ⟨rfl, by assumption⟩
    | false =>
      have hx1 := HX.out.1
      have hy1 := HY.out.1
      have hx2 := of_decide_eq_true hx1.symm
      have hy2 := of_decide_eq_false hy1.symm
      have HE : Hid (CC = -1) := by
        show _ = _
        rw [← HCC.out]
        unfold cmpI
        rw [if_pos (by omega)]
      clear hx1 hy1 hx2 hy2
      go_enter Try.func28, Try.ntmps28
      go_wp2_with fail
      refine wp_region_relw 6 (by kernel_rfl) (by kernel_rfl) (by kernel_rfl) ?_
      simp only [List.take_succ_cons, List.take_zero, fillL, Act.put, List.setIfInBounds_toArray, List.set_cons_zero, List.set_cons_succ]
      apply rel_is
      · intro u wx hb hd
        have hz := hb.size
        (try simp only [World.size_alloc, World.size_setCell] at hz)
        have hz0 : w.heap.size < wx.heap.size := by omega
        have hz1 : w.heap.size + 1 < wx.heap.size := by omega
        obtain ⟨hc, hf⟩ := bcell hb
        have HBX := Lib.hid hb
        clear hb hz
        simp [depsS, Region.binds, updS, Stay.is, Stay.any] at hd
        go_simp
        first | exact ⟨Below.refl _ _, rfl⟩ | rfl
      apply rel_is
      · intro u wx hb hd
        have hz := hb.size
        (try simp only [World.size_alloc, World.size_setCell] at hz)
        have hz0 : w.heap.size < wx.heap.size := by omega
        have hz1 : w.heap.size + 1 < wx.heap.size := by omega
        obtain ⟨hc, hf⟩ := bcell hb
        have HBX := Lib.hid hb
        clear hb hz
        simp [depsS, Region.binds, updS, Stay.is, Stay.any] at hd
        go_simp
        first | rfl | (go_at_call 53; refine (negative_any x _ X _ HX.out).mono ?_; rintro e w1 ⟨rfl, hb1⟩; first | exact ⟨rfl, hb1⟩ | exact ⟨_, rfl, hb1, rfl⟩)
      apply rel_is
      · intro u wx hb hd
        have hz := hb.size
        (try simp only [World.size_alloc, World.size_setCell] at hz)
        have hz0 : w.heap.size < wx.heap.size := by omega
        have hz1 : w.heap.size + 1 < wx.heap.size := by omega
        obtain ⟨hc, hf⟩ := bcell hb
        have HBX := Lib.hid hb
        clear hb hz
        simp [depsS, Region.binds, updS, Stay.is, Stay.any] at hd
        go_simp
        first | exact ⟨Below.refl _ _, rfl⟩ | rfl
      apply rel_is
      · intro u wx hb hd
        have hz := hb.size
        (try simp only [World.size_alloc, World.size_setCell] at hz)
        have hz0 : w.heap.size < wx.heap.size := by omega
        have hz1 : w.heap.size + 1 < wx.heap.size := by omega
        obtain ⟨hc, hf⟩ := bcell hb
        have HBX := Lib.hid hb
        clear hb hz
        simp [depsS, Region.binds, updS, Stay.is, Stay.any] at hd
        go_simp
        first | rfl | (go_at_call 53; refine (negative_any y _ Y _ HY.out).mono ?_; rintro e w1 ⟨rfl, hb1⟩; first | exact ⟨rfl, hb1⟩ | exact ⟨_, rfl, hb1, rfl⟩)
      iterate 2
        apply rel_is
        · intro u wx hb hd
          have hz := hb.size
          (try simp only [World.size_alloc, World.size_setCell] at hz)
          have hz0 : w.heap.size < wx.heap.size := by omega
          have hz1 : w.heap.size + 1 < wx.heap.size := by omega
          obtain ⟨hc, hf⟩ := bcell hb
          have HBX := Lib.hid hb
          clear hb hz
          simp [depsS, Region.binds, updS, Stay.is, Stay.any] at hd
          go_simp
          first | exact ⟨Below.refl _ _, rfl⟩ | rfl
      intro u w5 hb hE
      have e0 : u 0 = _ := endS_get hE 0 (by decide)
      have e1 : u 1 = _ := endS_get hE 1 (by decide)
      have e2 : u 2 = _ := endS_get hE 2 (by decide)
      have e3 : u 3 = _ := endS_get hE 3 (by decide)
      have e4 : u 4 = _ := endS_get hE 4 (by decide)
      have e5 : u 5 = _ := endS_get hE 5 (by decide)
      simp only [List.drop_succ_cons, List.drop_zero, List.take_succ_cons, List.take_zero, fillL, Act.put, List.setIfInBounds_toArray, List.set_cons_zero, List.set_cons_succ, e0, e1, e2, e3, e4, e5]
      clear e0 e1 e2 e3 e4 e5 hE
      have HBw5 := Lib.hid (below_step (w := w) (by first | assumption | go_grown) hb)
      have HBXw5 := Lib.hid hb
      have hzw5 := hb.size
      (try simp only [World.size_alloc, World.size_setCell] at hzw5)
      have hzw50 : w.heap.size < w5.heap.size := by omega
      have hzw51 : w.heap.size + 1 < w5.heap.size := by omega
      obtain ⟨hcw5, hfw5⟩ := bcell hb
      clear hb hzw5
      go_wp2
      go_returns
      rw [HE.out]
      exact ⟨rfl, HBw5.out⟩
  | false =>
    cases by' with
    | true =>
      have hx1 := HX.out.1
      have hy1 := HY.out.1
      have hx2 := of_decide_eq_false hx1.symm
      have hy2 := of_decide_eq_true hy1.symm
      have HE : Hid (CC = 1) := by
        show _ = _
        rw [← HCC.out]
        unfold cmpI
        rw [if_neg (by omega), if_pos (by omega)]
      clear hx1 hy1 hx2 hy2
      go_enter Try.func28, Try.ntmps28
      go_wp2_with fail
      refine wp_region_relw 6 (by kernel_rfl) (by kernel_rfl) (by kernel_rfl) ?_
      simp only [List.take_succ_cons, List.take_zero, fillL, Act.put, List.setIfInBounds_toArray, List.set_cons_zero, List.set_cons_succ]
      apply rel_is
      · intro u wx hb hd
        have hz := hb.size
        (try simp only [World.size_alloc, World.size_setCell] at hz)
        have hz0 : w.heap.size < wx.heap.size := by omega
        have hz1 : w.heap.size + 1 < wx.heap.size := by omega
        obtain ⟨hc, hf⟩ := bcell hb
        have HBX := Lib.hid hb
        clear hb hz
        simp [depsS, Region.binds, updS, Stay.is, Stay.any] at hd
        go_simp
        first | exact ⟨Below.refl _ _, rfl⟩ | rfl
      apply rel_is
      · intro u wx hb hd
        have hz := hb.size
        (try simp only [World.size_alloc, World.size_setCell] at hz)
        have hz0 : w.heap.size < wx.heap.size := by omega
        have hz1 : w.heap.size + 1 < wx.heap.size := by omega
        obtain ⟨hc, hf⟩ := bcell hb
        have HBX := Lib.hid hb
        clear hb hz
        simp [depsS, Region.binds, updS, Stay.is, Stay.any] at hd
        go_simp
        first | rfl | (go_at_call 53; refine (negative_any x _ X _ HX.out).mono ?_; rintro e w1 ⟨rfl, hb1⟩; first | exact ⟨rfl, hb1⟩ | exact ⟨_, rfl, hb1, rfl⟩)
      apply rel_is
      · intro u wx hb hd
        have hz := hb.size
        (try simp only [World.size_alloc, World.size_setCell] at hz)
        have hz0 : w.heap.size < wx.heap.size := by omega
        have hz1 : w.heap.size + 1 < wx.heap.size := by omega
        obtain ⟨hc, hf⟩ := bcell hb
        have HBX := Lib.hid hb
        clear hb hz
        simp [depsS, Region.binds, updS, Stay.is, Stay.any] at hd
        go_simp
        first | exact ⟨Below.refl _ _, rfl⟩ | rfl
      apply rel_is
      · intro u wx hb hd
        have hz := hb.size
        (try simp only [World.size_alloc, World.size_setCell] at hz)
        have hz0 : w.heap.size < wx.heap.size := by omega
        have hz1 : w.heap.size + 1 < wx.heap.size := by omega
        obtain ⟨hc, hf⟩ := bcell hb
        have HBX := Lib.hid hb
        clear hb hz
        simp [depsS, Region.binds, updS, Stay.is, Stay.any] at hd
        go_simp
        first | rfl | (go_at_call 53; refine (negative_any y _ Y _ HY.out).mono ?_; rintro e w1 ⟨rfl, hb1⟩; first | exact ⟨rfl, hb1⟩ | exact ⟨_, rfl, hb1, rfl⟩)
      iterate 2
        apply rel_is
        · intro u wx hb hd
          have hz := hb.size
          (try simp only [World.size_alloc, World.size_setCell] at hz)
          have hz0 : w.heap.size < wx.heap.size := by omega
          have hz1 : w.heap.size + 1 < wx.heap.size := by omega
          obtain ⟨hc, hf⟩ := bcell hb
          have HBX := Lib.hid hb
          clear hb hz
          simp [depsS, Region.binds, updS, Stay.is, Stay.any] at hd
          go_simp
          first | exact ⟨Below.refl _ _, rfl⟩ | rfl
      intro u w5 hb hE
      have e0 : u 0 = _ := endS_get hE 0 (by decide)
      have e1 : u 1 = _ := endS_get hE 1 (by decide)
      have e2 : u 2 = _ := endS_get hE 2 (by decide)
      have e3 : u 3 = _ := endS_get hE 3 (by decide)
      have e4 : u 4 = _ := endS_get hE 4 (by decide)
      have e5 : u 5 = _ := endS_get hE 5 (by decide)
      simp only [List.drop_succ_cons, List.drop_zero, List.take_succ_cons, List.take_zero, fillL, Act.put, List.setIfInBounds_toArray, List.set_cons_zero, List.set_cons_succ, e0, e1, e2, e3, e4, e5]
      clear e0 e1 e2 e3 e4 e5 hE
      have HBw5 := Lib.hid (below_step (w := w) (by first | assumption | go_grown) hb)
      have HBXw5 := Lib.hid hb
      have hzw5 := hb.size
      (try simp only [World.size_alloc, World.size_setCell] at hzw5)
      have hzw50 : w.heap.size < w5.heap.size := by omega
      have hzw51 : w.heap.size + 1 < w5.heap.size := by omega
      obtain ⟨hcw5, hfw5⟩ := bcell hb
      clear hb hzw5
      go_wp2
      go_returns
      rw [HE.out]
      exact ⟨rfl, HBw5.out⟩
    | false =>
      have hx1 := HX.out.1
      have hy1 := HY.out.1
      have hx2 := of_decide_eq_false hx1.symm
      have hy2 := of_decide_eq_false hy1.symm
      have HE : Hid (cmpI (valN 18446744073709551616 X 4) (valN 18446744073709551616 Y 4) = CC) := by
        show _ = _
        rw [← HCC.out, HX.out.2.2, HY.out.2.2]
        unfold cmpI
        split <;> split <;> (try split) <;> (try split) <;> omega
      clear hx1 hy1 hx2 hy2
      go_enter Try.func28, Try.ntmps28
      go_wp2_with fail
      refine wp_region_relw 6 (by kernel_rfl) (by kernel_rfl) (by kernel_rfl) ?_
      simp only [List.take_succ_cons, List.take_zero, fillL, Act.put, List.setIfInBounds_toArray, List.set_cons_zero, List.set_cons_succ]
      apply rel_is
      · intro u wx hb hd
        have hz := hb.size
        (try simp only [World.size_alloc, World.size_setCell] at hz)
        have hz0 : w.heap.size < wx.heap.size := by omega
        have hz1 : w.heap.size + 1 < wx.heap.size := by omega
        obtain ⟨hc, hf⟩ := bcell hb
        have HBX := Lib.hid hb
        clear hb hz
        simp [depsS, Region.binds, updS, Stay.is, Stay.any] at hd
        go_simp
        first | exact ⟨Below.refl _ _, rfl⟩ | rfl
      apply rel_is
      · intro u wx hb hd
        have hz := hb.size
        (try simp only [World.size_alloc, World.size_setCell] at hz)
        have hz0 : w.heap.size < wx.heap.size := by omega
        have hz1 : w.heap.size + 1 < wx.heap.size := by omega
        obtain ⟨hc, hf⟩ := bcell hb
        have HBX := Lib.hid hb
        clear hb hz
        simp [depsS, Region.binds, updS, Stay.is, Stay.any] at hd
        go_simp
        first | rfl | (go_at_call 53; refine (negative_any x _ X _ HX.out).mono ?_; rintro e w1 ⟨rfl, hb1⟩; first | exact ⟨rfl, hb1⟩ | exact ⟨_, rfl, hb1, rfl⟩)
      apply rel_is
      · intro u wx hb hd
        have hz := hb.size
        (try simp only [World.size_alloc, World.size_setCell] at hz)
        have hz0 : w.heap.size < wx.heap.size := by omega
        have hz1 : w.heap.size + 1 < wx.heap.size := by omega
        obtain ⟨hc, hf⟩ := bcell hb
        have HBX := Lib.hid hb
        clear hb hz
        simp [depsS, Region.binds, updS, Stay.is, Stay.any] at hd
        go_simp
        first | exact ⟨Below.refl _ _, rfl⟩ | rfl
      apply rel_is
      · intro u wx hb hd
        have hz := hb.size
        (try simp only [World.size_alloc, World.size_setCell] at hz)
        have hz0 : w.heap.size < wx.heap.size := by omega
        have hz1 : w.heap.size + 1 < wx.heap.size := by omega
        obtain ⟨hc, hf⟩ := bcell hb
        have HBX := Lib.hid hb
        clear hb hz
        simp [depsS, Region.binds, updS, Stay.is, Stay.any] at hd
        go_simp
        first | rfl | (go_at_call 53; refine (negative_any y _ Y _ HY.out).mono ?_; rintro e w1 ⟨rfl, hb1⟩; first | exact ⟨rfl, hb1⟩ | exact ⟨_, rfl, hb1, rfl⟩)
      iterate 2
        apply rel_is
        · intro u wx hb hd
          have hz := hb.size
          (try simp only [World.size_alloc, World.size_setCell] at hz)
          have hz0 : w.heap.size < wx.heap.size := by omega
          have hz1 : w.heap.size + 1 < wx.heap.size := by omega
          obtain ⟨hc, hf⟩ := bcell hb
          have HBX := Lib.hid hb
          clear hb hz
          simp [depsS, Region.binds, updS, Stay.is, Stay.any] at hd
          go_simp
          first | exact ⟨Below.refl _ _, rfl⟩ | rfl
      intro u w5 hb hE
      have e0 : u 0 = _ := endS_get hE 0 (by decide)
      have e1 : u 1 = _ := endS_get hE 1 (by decide)
      have e2 : u 2 = _ := endS_get hE 2 (by decide)
      have e3 : u 3 = _ := endS_get hE 3 (by decide)
      have e4 : u 4 = _ := endS_get hE 4 (by decide)
      have e5 : u 5 = _ := endS_get hE 5 (by decide)
      simp only [List.drop_succ_cons, List.drop_zero, List.take_succ_cons, List.take_zero, fillL, Act.put, List.setIfInBounds_toArray, List.set_cons_zero, List.set_cons_succ, e0, e1, e2, e3, e4, e5]
      clear e0 e1 e2 e3 e4 e5 hE
      have HBw5 := Lib.hid (below_step (w := w) (by first | assumption | go_grown) hb)
      have HBXw5 := Lib.hid hb
      have hzw5 := hb.size
      (try simp only [World.size_alloc, World.size_setCell] at hzw5)
      have hzw50 : w.heap.size < w5.heap.size := by omega
      have hzw51 : w.heap.size + 1 < w5.heap.size := by omega
      obtain ⟨hcw5, hfw5⟩ := bcell hb
      clear hb hzw5
      go_wp2_with fail
      (go_at_call 54; refine (compare_any X Y _ HX.out.2.1 HY.out.2.1).mono ?_; rintro e_ w6 ⟨rfl, hb⟩)
      rw [HE.out]
      have hB6 : Below w.heap.size w w6 := below_step HBw5.out hb
      clear hb
      go_wp2
      go_returns
      exact ⟨rfl, by assumption⟩

set_option maxHeartbeats 8000000 in
theorem Add_any (x y : Int) (bx by' : Bool) (X Y : Nat → Int) (w : World) (hx : isW x bx X) (hy : isW y by' Y) (hs : ((x + y).natAbs : Int) < 115792089237316195423570985008687907853269984665640564039457584007913129639936) :
    Calls Try.prog 51 #[.agg #[.bool bx, .int .u64 (X 0), .int .u64 (X 1), .int .u64 (X 2), .int .u64 (X 3)], .agg #[.bool by', .int .u64 (Y 0), .int .u64 (Y 1), .int .u64 (Y 2), .int .u64 (Y 3)]] w fun e w' => ∃ Z : Nat → Int, e = .returned (.tuple #[.agg #[.bool (decide (x + y < 0)), .int .u64 (Z 0), .int .u64 (Z 1), .int .u64 (Z 2), .int .u64 (Z 3)], .int .i64 0]) ∧ isW (x + y) (decide (x + y < 0)) Z ∧ Below w.heap.size w w' := by
  have HX := Lib.hid hx
  have HY := Lib.hid hy
  obtain ⟨SG, hSG⟩ : ∃ b, decide (x + y < 0) = b := ⟨_, rfl⟩
  have HSG0 := Lib.hid hSG
  rw [hSG]
  clear hSG hx hy
  cases bx with
  | true =>
    cases by' with
    | true =>
      have hx2 := of_decide_eq_true HX.out.1.symm
      have hy2 := of_decide_eq_true HY.out.1.symm
      have hbx := isW_lt HX.out
      have hby := isW_lt HY.out
      go_enter Try.func51, Try.ntmps51
      go_wp2_with fail
      (go_at_call 73; refine (plus_any X Y _ HX.out.2.1 HY.out.2.1).mono ?_; rintro e_ w1 ⟨S, k, rfl, hd, hk, he, hb⟩)
      have hsw1 := hb.size
      (try simp only [World.size_alloc, World.size_setCell] at hsw1)
      have zzw1 : w.heap.size < w1.heap.size := by omega
      have hPw1 : Below w.heap.size w w1 := below_step (w := w) (by first | exact Below.refl _ _ | go_grown) hb
      have zaw1 : w.heap.size < w1.heap.size := by omega
      have a0w1 : w1.cell? ⟨w.heap.size, 0, none⟩ = some (.bool true) := (hb.cell (p := ⟨_, _, none⟩) (by simp <;> omega)).trans (by simp [go_sem])
      have a1w1 : w1.cell? ⟨w.heap.size, 1, none⟩ = some (.int .u64 (X 0)) := (hb.cell (p := ⟨_, _, none⟩) (by simp <;> omega)).trans (by simp [go_sem])
      have a2w1 : w1.cell? ⟨w.heap.size, 2, none⟩ = some (.int .u64 (X 1)) := (hb.cell (p := ⟨_, _, none⟩) (by simp <;> omega)).trans (by simp [go_sem])
      have a3w1 : w1.cell? ⟨w.heap.size, 3, none⟩ = some (.int .u64 (X 2)) := (hb.cell (p := ⟨_, _, none⟩) (by simp <;> omega)).trans (by simp [go_sem])
      have a4w1 : w1.cell? ⟨w.heap.size, 4, none⟩ = some (.int .u64 (X 3)) := (hb.cell (p := ⟨_, _, none⟩) (by simp <;> omega)).trans (by simp [go_sem])
      have zbw1 : w.heap.size + 1 < w1.heap.size := by omega
      have b0w1 : w1.cell? ⟨w.heap.size + 1, 0, none⟩ = some (.bool true) := (hb.cell (p := ⟨_, _, none⟩) (by simp <;> omega)).trans (by simp [go_sem])
      have b1w1 : w1.cell? ⟨w.heap.size + 1, 1, none⟩ = some (.int .u64 (Y 0)) := (hb.cell (p := ⟨_, _, none⟩) (by simp <;> omega)).trans (by simp [go_sem])
      have b2w1 : w1.cell? ⟨w.heap.size + 1, 2, none⟩ = some (.int .u64 (Y 1)) := (hb.cell (p := ⟨_, _, none⟩) (by simp <;> omega)).trans (by simp [go_sem])
      have b3w1 : w1.cell? ⟨w.heap.size + 1, 3, none⟩ = some (.int .u64 (Y 2)) := (hb.cell (p := ⟨_, _, none⟩) (by simp <;> omega)).trans (by simp [go_sem])
      have b4w1 : w1.cell? ⟨w.heap.size + 1, 4, none⟩ = some (.int .u64 (Y 3)) := (hb.cell (p := ⟨_, _, none⟩) (by simp <;> omega)).trans (by simp [go_sem])
      have zrw1 : w.heap.size + 1 + 1 < w1.heap.size := by omega
      have r0w1 : w1.cell? ⟨w.heap.size + 1 + 1, 0, none⟩ = some (.bool false) := (hb.cell (p := ⟨_, _, none⟩) (by simp <;> omega)).trans (by simp [go_sem])
      have r1w1 : w1.cell? ⟨w.heap.size + 1 + 1, 1, none⟩ = some (.int .u64 0) := (hb.cell (p := ⟨_, _, none⟩) (by simp <;> omega)).trans (by simp [go_sem])
      have r2w1 : w1.cell? ⟨w.heap.size + 1 + 1, 2, none⟩ = some (.int .u64 0) := (hb.cell (p := ⟨_, _, none⟩) (by simp <;> omega)).trans (by simp [go_sem])
      have r3w1 : w1.cell? ⟨w.heap.size + 1 + 1, 3, none⟩ = some (.int .u64 0) := (hb.cell (p := ⟨_, _, none⟩) (by simp <;> omega)).trans (by simp [go_sem])
      have r4w1 : w1.cell? ⟨w.heap.size + 1 + 1, 4, none⟩ = some (.int .u64 0) := (hb.cell (p := ⟨_, _, none⟩) (by simp <;> omega)).trans (by simp [go_sem])
      have fr0w1 : w1.frozen? ⟨w.heap.size + 1 + 1, 0, none⟩ = false := (hb.frozen (p := ⟨_, _, none⟩) (by simp <;> omega)).trans (by simp [go_sem])
      have fr1w1 : w1.frozen? ⟨w.heap.size + 1 + 1, 1, none⟩ = false := (hb.frozen (p := ⟨_, _, none⟩) (by simp <;> omega)).trans (by simp [go_sem])
      have fr2w1 : w1.frozen? ⟨w.heap.size + 1 + 1, 2, none⟩ = false := (hb.frozen (p := ⟨_, _, none⟩) (by simp <;> omega)).trans (by simp [go_sem])
      have fr3w1 : w1.frozen? ⟨w.heap.size + 1 + 1, 3, none⟩ = false := (hb.frozen (p := ⟨_, _, none⟩) (by simp <;> omega)).trans (by simp [go_sem])
      have fr4w1 : w1.frozen? ⟨w.heap.size + 1 + 1, 4, none⟩ = false := (hb.frozen (p := ⟨_, _, none⟩) (by simp <;> omega)).trans (by simp [go_sem])
      have hBw1 : Below w.heap.size w w1 := below_step (w := w) (by first | assumption | go_grown) hb
      have HDS := Lib.hid hd
      have HES := Lib.hid he
      clear hd he
      clear hb hsw1 hPw1
      obtain rfl : k = 0 := by
        have h1 := HES.out
        have h2 := valN_bd (by decide) HDS.out
        have h3 := HX.out.2.2
        have h4 := HY.out.2.2
        rw [pw4] at h1 h2
        omega
      clear hk
      have HM : Hid (dig 18446744073709551616 4 S ∧ -(valN 18446744073709551616 S 4) = x + y) := ⟨HDS.out, by have h1 := HES.out; have h3 := HX.out.2.2; have h4 := HY.out.2.2; simp only [Int.zero_mul, Int.add_zero] at h1; omega⟩
      have HSG : Hid (sgB true (valN 18446744073709551616 S 4) = SG) := by
        show _ = _
        rw [sgB_T, HM.out.2]
        exact HSG0.out
      go_wp2_with fail
      (go_at_call 52; refine (signed_any true _ S _ HM.out.1 rfl).mono ?_; rintro e_ w2 ⟨rfl, hb⟩)
      rw [HSG.out]
      have hsw2 := hb.size
      (try simp only [World.size_alloc, World.size_setCell] at hsw2)
      have zzw2 : w.heap.size < w2.heap.size := by omega
      have hPw2 : Below w1.heap.size w1 w2 := below_step (w := w1) (by first | exact Below.refl _ _ | go_grown) hb
      have zaw2 : w.heap.size < w2.heap.size := by omega
      have a0w2 : w2.cell? ⟨w.heap.size, 0, none⟩ = some (.bool true) := (hPw2.cell (p := ⟨_, _, none⟩) zaw1).trans a0w1
      have a1w2 : w2.cell? ⟨w.heap.size, 1, none⟩ = some (.int .u64 (X 0)) := (hPw2.cell (p := ⟨_, _, none⟩) zaw1).trans a1w1
      have a2w2 : w2.cell? ⟨w.heap.size, 2, none⟩ = some (.int .u64 (X 1)) := (hPw2.cell (p := ⟨_, _, none⟩) zaw1).trans a2w1
      have a3w2 : w2.cell? ⟨w.heap.size, 3, none⟩ = some (.int .u64 (X 2)) := (hPw2.cell (p := ⟨_, _, none⟩) zaw1).trans a3w1
      have a4w2 : w2.cell? ⟨w.heap.size, 4, none⟩ = some (.int .u64 (X 3)) := (hPw2.cell (p := ⟨_, _, none⟩) zaw1).trans a4w1
      have zbw2 : w.heap.size + 1 < w2.heap.size := by omega
      have b0w2 : w2.cell? ⟨w.heap.size + 1, 0, none⟩ = some (.bool true) := (hPw2.cell (p := ⟨_, _, none⟩) zbw1).trans b0w1
      have b1w2 : w2.cell? ⟨w.heap.size + 1, 1, none⟩ = some (.int .u64 (Y 0)) := (hPw2.cell (p := ⟨_, _, none⟩) zbw1).trans b1w1
      have b2w2 : w2.cell? ⟨w.heap.size + 1, 2, none⟩ = some (.int .u64 (Y 1)) := (hPw2.cell (p := ⟨_, _, none⟩) zbw1).trans b2w1
      have b3w2 : w2.cell? ⟨w.heap.size + 1, 3, none⟩ = some (.int .u64 (Y 2)) := (hPw2.cell (p := ⟨_, _, none⟩) zbw1).trans b3w1
      have b4w2 : w2.cell? ⟨w.heap.size + 1, 4, none⟩ = some (.int .u64 (Y 3)) := (hPw2.cell (p := ⟨_, _, none⟩) zbw1).trans b4w1
      have zrw2 : w.heap.size + 1 + 1 < w2.heap.size := by omega
      have r0w2 : w2.cell? ⟨w.heap.size + 1 + 1, 0, none⟩ = some (.bool false) := (hPw2.cell (p := ⟨_, _, none⟩) zrw1).trans r0w1
      have r1w2 : w2.cell? ⟨w.heap.size + 1 + 1, 1, none⟩ = some (.int .u64 0) := (hPw2.cell (p := ⟨_, _, none⟩) zrw1).trans r1w1
      have r2w2 : w2.cell? ⟨w.heap.size + 1 + 1, 2, none⟩ = some (.int .u64 0) := (hPw2.cell (p := ⟨_, _, none⟩) zrw1).trans r2w1
      have r3w2 : w2.cell? ⟨w.heap.size + 1 + 1, 3, none⟩ = some (.int .u64 0) := (hPw2.cell (p := ⟨_, _, none⟩) zrw1).trans r3w1
      have r4w2 : w2.cell? ⟨w.heap.size + 1 + 1, 4, none⟩ = some (.int .u64 0) := (hPw2.cell (p := ⟨_, _, none⟩) zrw1).trans r4w1
      have fr0w2 : w2.frozen? ⟨w.heap.size + 1 + 1, 0, none⟩ = false := (hPw2.frozen (p := ⟨_, _, none⟩) zrw1).trans fr0w1
      have fr1w2 : w2.frozen? ⟨w.heap.size + 1 + 1, 1, none⟩ = false := (hPw2.frozen (p := ⟨_, _, none⟩) zrw1).trans fr1w1
      have fr2w2 : w2.frozen? ⟨w.heap.size + 1 + 1, 2, none⟩ = false := (hPw2.frozen (p := ⟨_, _, none⟩) zrw1).trans fr2w1
      have fr3w2 : w2.frozen? ⟨w.heap.size + 1 + 1, 3, none⟩ = false := (hPw2.frozen (p := ⟨_, _, none⟩) zrw1).trans fr3w1
      have fr4w2 : w2.frozen? ⟨w.heap.size + 1 + 1, 4, none⟩ = false := (hPw2.frozen (p := ⟨_, _, none⟩) zrw1).trans fr4w1
      have zdw2 : w1.heap.size < w2.heap.size := by omega
      have d0w2 : w2.cell? ⟨w1.heap.size, 0, none⟩ = some (.int .u64 (S 0)) := (hb.cell (p := ⟨_, _, none⟩) (by simp <;> omega)).trans (by simp [go_sem])
      have d1w2 : w2.cell? ⟨w1.heap.size, 1, none⟩ = some (.int .u64 (S 1)) := (hb.cell (p := ⟨_, _, none⟩) (by simp <;> omega)).trans (by simp [go_sem])
      have d2w2 : w2.cell? ⟨w1.heap.size, 2, none⟩ = some (.int .u64 (S 2)) := (hb.cell (p := ⟨_, _, none⟩) (by simp <;> omega)).trans (by simp [go_sem])
      have d3w2 : w2.cell? ⟨w1.heap.size, 3, none⟩ = some (.int .u64 (S 3)) := (hb.cell (p := ⟨_, _, none⟩) (by simp <;> omega)).trans (by simp [go_sem])
      have hBw2 : Below w.heap.size w w2 := below_step (w := w) (by first | assumption | go_grown) hb
      clear hb hsw2 hPw2
      clear zaw1 zbw1 zrw1 a0w1 a1w1 a2w1 a3w1 a4w1 b0w1 b1w1 b2w1 b3w1 b4w1 r0w1 r1w1 r2w1 r3w1 r4w1 fr0w1 fr1w1 fr2w1 fr3w1 fr4w1
      go_wp2
      all_goals (refine bodyPost_ret (v := .tuple #[.agg #[.bool SG, .int .u64 (S 0), .int .u64 (S 1), .int .u64 (S 2), .int .u64 (S 3)], .int .i64 0]) (by simp (maxDischargeDepth := 9) [results, Try.results51, go_sem, *]) rfl ?_)
      refine ⟨S, rfl, ?_, by go_grown⟩
      have h := isW_sgT HM.out.1 rfl
      rw [HSG.out, HM.out.2] at h
      exact h
    | false =>
      have hx2 := of_decide_eq_true HX.out.1.symm
      have hy2 := of_decide_eq_false HY.out.1.symm
      have hbx := isW_lt HX.out
      have hby := isW_lt HY.out
      go_enter Try.func51, Try.ntmps51
      go_wp2_with fail
      (go_at_call 72; refine (minus_any X Y _ HX.out.2.1 HY.out.2.1).mono ?_; rintro e_ w1 ⟨S, k, rfl, hd, hk, he, hb⟩)
      have hsw1 := hb.size
      (try simp only [World.size_alloc, World.size_setCell] at hsw1)
      have zzw1 : w.heap.size < w1.heap.size := by omega
      have hPw1 : Below w.heap.size w w1 := below_step (w := w) (by first | exact Below.refl _ _ | go_grown) hb
      have zaw1 : w.heap.size < w1.heap.size := by omega
      have a0w1 : w1.cell? ⟨w.heap.size, 0, none⟩ = some (.bool true) := (hb.cell (p := ⟨_, _, none⟩) (by simp <;> omega)).trans (by simp [go_sem])
      have a1w1 : w1.cell? ⟨w.heap.size, 1, none⟩ = some (.int .u64 (X 0)) := (hb.cell (p := ⟨_, _, none⟩) (by simp <;> omega)).trans (by simp [go_sem])
      have a2w1 : w1.cell? ⟨w.heap.size, 2, none⟩ = some (.int .u64 (X 1)) := (hb.cell (p := ⟨_, _, none⟩) (by simp <;> omega)).trans (by simp [go_sem])
      have a3w1 : w1.cell? ⟨w.heap.size, 3, none⟩ = some (.int .u64 (X 2)) := (hb.cell (p := ⟨_, _, none⟩) (by simp <;> omega)).trans (by simp [go_sem])
      have a4w1 : w1.cell? ⟨w.heap.size, 4, none⟩ = some (.int .u64 (X 3)) := (hb.cell (p := ⟨_, _, none⟩) (by simp <;> omega)).trans (by simp [go_sem])
      have zbw1 : w.heap.size + 1 < w1.heap.size := by omega
      have b0w1 : w1.cell? ⟨w.heap.size + 1, 0, none⟩ = some (.bool false) := (hb.cell (p := ⟨_, _, none⟩) (by simp <;> omega)).trans (by simp [go_sem])
      have b1w1 : w1.cell? ⟨w.heap.size + 1, 1, none⟩ = some (.int .u64 (Y 0)) := (hb.cell (p := ⟨_, _, none⟩) (by simp <;> omega)).trans (by simp [go_sem])
      have b2w1 : w1.cell? ⟨w.heap.size + 1, 2, none⟩ = some (.int .u64 (Y 1)) := (hb.cell (p := ⟨_, _, none⟩) (by simp <;> omega)).trans (by simp [go_sem])
      have b3w1 : w1.cell? ⟨w.heap.size + 1, 3, none⟩ = some (.int .u64 (Y 2)) := (hb.cell (p := ⟨_, _, none⟩) (by simp <;> omega)).trans (by simp [go_sem])
      have b4w1 : w1.cell? ⟨w.heap.size + 1, 4, none⟩ = some (.int .u64 (Y 3)) := (hb.cell (p := ⟨_, _, none⟩) (by simp <;> omega)).trans (by simp [go_sem])
      have zrw1 : w.heap.size + 1 + 1 < w1.heap.size := by omega
      have r0w1 : w1.cell? ⟨w.heap.size + 1 + 1, 0, none⟩ = some (.bool false) := (hb.cell (p := ⟨_, _, none⟩) (by simp <;> omega)).trans (by simp [go_sem])
      have r1w1 : w1.cell? ⟨w.heap.size + 1 + 1, 1, none⟩ = some (.int .u64 0) := (hb.cell (p := ⟨_, _, none⟩) (by simp <;> omega)).trans (by simp [go_sem])
      have r2w1 : w1.cell? ⟨w.heap.size + 1 + 1, 2, none⟩ = some (.int .u64 0) := (hb.cell (p := ⟨_, _, none⟩) (by simp <;> omega)).trans (by simp [go_sem])
      have r3w1 : w1.cell? ⟨w.heap.size + 1 + 1, 3, none⟩ = some (.int .u64 0) := (hb.cell (p := ⟨_, _, none⟩) (by simp <;> omega)).trans (by simp [go_sem])
      have r4w1 : w1.cell? ⟨w.heap.size + 1 + 1, 4, none⟩ = some (.int .u64 0) := (hb.cell (p := ⟨_, _, none⟩) (by simp <;> omega)).trans (by simp [go_sem])
      have fr0w1 : w1.frozen? ⟨w.heap.size + 1 + 1, 0, none⟩ = false := (hb.frozen (p := ⟨_, _, none⟩) (by simp <;> omega)).trans (by simp [go_sem])
      have fr1w1 : w1.frozen? ⟨w.heap.size + 1 + 1, 1, none⟩ = false := (hb.frozen (p := ⟨_, _, none⟩) (by simp <;> omega)).trans (by simp [go_sem])
      have fr2w1 : w1.frozen? ⟨w.heap.size + 1 + 1, 2, none⟩ = false := (hb.frozen (p := ⟨_, _, none⟩) (by simp <;> omega)).trans (by simp [go_sem])
      have fr3w1 : w1.frozen? ⟨w.heap.size + 1 + 1, 3, none⟩ = false := (hb.frozen (p := ⟨_, _, none⟩) (by simp <;> omega)).trans (by simp [go_sem])
      have fr4w1 : w1.frozen? ⟨w.heap.size + 1 + 1, 4, none⟩ = false := (hb.frozen (p := ⟨_, _, none⟩) (by simp <;> omega)).trans (by simp [go_sem])
      have hBw1 : Below w.heap.size w w1 := below_step (w := w) (by first | assumption | go_grown) hb
      have HDS := Lib.hid hd
      have HES := Lib.hid he
      clear hd he
      clear hb hsw1 hPw1
      by_cases h0 : k = 0
      · subst h0
        clear hk
        have HM : Hid (dig 18446744073709551616 4 S ∧ -(valN 18446744073709551616 S 4) = x + y) := ⟨HDS.out, by have h1 := HES.out; have h3 := HX.out.2.2; have h4 := HY.out.2.2; simp only [Int.zero_mul, Int.sub_zero] at h1; omega⟩
        have HSG : Hid (sgB true (valN 18446744073709551616 S 4) = SG) := by
          show _ = _
          rw [sgB_T, HM.out.2]
          exact HSG0.out
        go_wp2_with fail
        (go_at_call 52; refine (signed_any true _ S _ HM.out.1 rfl).mono ?_; rintro e_ w2 ⟨rfl, hb⟩)
        rw [HSG.out]
        have hsw2 := hb.size
        (try simp only [World.size_alloc, World.size_setCell] at hsw2)
        have zzw2 : w.heap.size < w2.heap.size := by omega
        have hPw2 : Below w1.heap.size w1 w2 := below_step (w := w1) (by first | exact Below.refl _ _ | go_grown) hb
        have zaw2 : w.heap.size < w2.heap.size := by omega
        have a0w2 : w2.cell? ⟨w.heap.size, 0, none⟩ = some (.bool true) := (hPw2.cell (p := ⟨_, _, none⟩) zaw1).trans a0w1
        have a1w2 : w2.cell? ⟨w.heap.size, 1, none⟩ = some (.int .u64 (X 0)) := (hPw2.cell (p := ⟨_, _, none⟩) zaw1).trans a1w1
        have a2w2 : w2.cell? ⟨w.heap.size, 2, none⟩ = some (.int .u64 (X 1)) := (hPw2.cell (p := ⟨_, _, none⟩) zaw1).trans a2w1
        have a3w2 : w2.cell? ⟨w.heap.size, 3, none⟩ = some (.int .u64 (X 2)) := (hPw2.cell (p := ⟨_, _, none⟩) zaw1).trans a3w1
        have a4w2 : w2.cell? ⟨w.heap.size, 4, none⟩ = some (.int .u64 (X 3)) := (hPw2.cell (p := ⟨_, _, none⟩) zaw1).trans a4w1
        have zbw2 : w.heap.size + 1 < w2.heap.size := by omega
        have b0w2 : w2.cell? ⟨w.heap.size + 1, 0, none⟩ = some (.bool false) := (hPw2.cell (p := ⟨_, _, none⟩) zbw1).trans b0w1
        have b1w2 : w2.cell? ⟨w.heap.size + 1, 1, none⟩ = some (.int .u64 (Y 0)) := (hPw2.cell (p := ⟨_, _, none⟩) zbw1).trans b1w1
        have b2w2 : w2.cell? ⟨w.heap.size + 1, 2, none⟩ = some (.int .u64 (Y 1)) := (hPw2.cell (p := ⟨_, _, none⟩) zbw1).trans b2w1
        have b3w2 : w2.cell? ⟨w.heap.size + 1, 3, none⟩ = some (.int .u64 (Y 2)) := (hPw2.cell (p := ⟨_, _, none⟩) zbw1).trans b3w1
        have b4w2 : w2.cell? ⟨w.heap.size + 1, 4, none⟩ = some (.int .u64 (Y 3)) := (hPw2.cell (p := ⟨_, _, none⟩) zbw1).trans b4w1
        have zrw2 : w.heap.size + 1 + 1 < w2.heap.size := by omega
        have r0w2 : w2.cell? ⟨w.heap.size + 1 + 1, 0, none⟩ = some (.bool false) := (hPw2.cell (p := ⟨_, _, none⟩) zrw1).trans r0w1
        have r1w2 : w2.cell? ⟨w.heap.size + 1 + 1, 1, none⟩ = some (.int .u64 0) := (hPw2.cell (p := ⟨_, _, none⟩) zrw1).trans r1w1
        have r2w2 : w2.cell? ⟨w.heap.size + 1 + 1, 2, none⟩ = some (.int .u64 0) := (hPw2.cell (p := ⟨_, _, none⟩) zrw1).trans r2w1
        have r3w2 : w2.cell? ⟨w.heap.size + 1 + 1, 3, none⟩ = some (.int .u64 0) := (hPw2.cell (p := ⟨_, _, none⟩) zrw1).trans r3w1
        have r4w2 : w2.cell? ⟨w.heap.size + 1 + 1, 4, none⟩ = some (.int .u64 0) := (hPw2.cell (p := ⟨_, _, none⟩) zrw1).trans r4w1
        have fr0w2 : w2.frozen? ⟨w.heap.size + 1 + 1, 0, none⟩ = false := (hPw2.frozen (p := ⟨_, _, none⟩) zrw1).trans fr0w1
        have fr1w2 : w2.frozen? ⟨w.heap.size + 1 + 1, 1, none⟩ = false := (hPw2.frozen (p := ⟨_, _, none⟩) zrw1).trans fr1w1
        have fr2w2 : w2.frozen? ⟨w.heap.size + 1 + 1, 2, none⟩ = false := (hPw2.frozen (p := ⟨_, _, none⟩) zrw1).trans fr2w1
        have fr3w2 : w2.frozen? ⟨w.heap.size + 1 + 1, 3, none⟩ = false := (hPw2.frozen (p := ⟨_, _, none⟩) zrw1).trans fr3w1
        have fr4w2 : w2.frozen? ⟨w.heap.size + 1 + 1, 4, none⟩ = false := (hPw2.frozen (p := ⟨_, _, none⟩) zrw1).trans fr4w1
        have zdw2 : w1.heap.size < w2.heap.size := by omega
        have d0w2 : w2.cell? ⟨w1.heap.size, 0, none⟩ = some (.int .u64 (S 0)) := (hb.cell (p := ⟨_, _, none⟩) (by simp <;> omega)).trans (by simp [go_sem])
        have d1w2 : w2.cell? ⟨w1.heap.size, 1, none⟩ = some (.int .u64 (S 1)) := (hb.cell (p := ⟨_, _, none⟩) (by simp <;> omega)).trans (by simp [go_sem])
        have d2w2 : w2.cell? ⟨w1.heap.size, 2, none⟩ = some (.int .u64 (S 2)) := (hb.cell (p := ⟨_, _, none⟩) (by simp <;> omega)).trans (by simp [go_sem])
        have d3w2 : w2.cell? ⟨w1.heap.size, 3, none⟩ = some (.int .u64 (S 3)) := (hb.cell (p := ⟨_, _, none⟩) (by simp <;> omega)).trans (by simp [go_sem])
        have hBw2 : Below w.heap.size w w2 := below_step (w := w) (by first | assumption | go_grown) hb
        clear hb hsw2 hPw2
        clear zaw1 zbw1 zrw1 a0w1 a1w1 a2w1 a3w1 a4w1 b0w1 b1w1 b2w1 b3w1 b4w1 r0w1 r1w1 r2w1 r3w1 r4w1 fr0w1 fr1w1 fr2w1 fr3w1 fr4w1
        go_wp2
        all_goals (refine bodyPost_ret (v := .tuple #[.agg #[.bool SG, .int .u64 (S 0), .int .u64 (S 1), .int .u64 (S 2), .int .u64 (S 3)], .int .i64 0]) (by simp (maxDischargeDepth := 9) [results, Try.results51, go_sem, *]) rfl ?_)
        refine ⟨S, rfl, ?_, by go_grown⟩
        have h := isW_sgT HM.out.1 rfl
        rw [HSG.out, HM.out.2] at h
        exact h
      · obtain rfl : k = 1 := by omega
        clear hk h0
        have HLT : Hid ((x.natAbs : Int) < y.natAbs) := by
          show _ < _
          have h1 := HES.out
          have h2 := valN_bd (by decide) HDS.out
          have h3 := HX.out.2.2
          have h4 := HY.out.2.2
          rw [pw4] at h1 h2
          omega
        go_wp2_with fail
        (go_at_call 72; refine (minus_any Y X _ HY.out.2.1 HX.out.2.1).mono ?_; rintro e_ w2 ⟨T, k2, rfl, hd, hk2, he, hb⟩)
        have hsw2 := hb.size
        (try simp only [World.size_alloc, World.size_setCell] at hsw2)
        have zzw2 : w.heap.size < w2.heap.size := by omega
        have hPw2 : Below w1.heap.size w1 w2 := below_step (w := w1) (by first | exact Below.refl _ _ | go_grown) hb
        have zaw2 : w.heap.size < w2.heap.size := by omega
        have a0w2 : w2.cell? ⟨w.heap.size, 0, none⟩ = some (.bool true) := (hPw2.cell (p := ⟨_, _, none⟩) zaw1).trans a0w1
        have a1w2 : w2.cell? ⟨w.heap.size, 1, none⟩ = some (.int .u64 (X 0)) := (hPw2.cell (p := ⟨_, _, none⟩) zaw1).trans a1w1
        have a2w2 : w2.cell? ⟨w.heap.size, 2, none⟩ = some (.int .u64 (X 1)) := (hPw2.cell (p := ⟨_, _, none⟩) zaw1).trans a2w1
        have a3w2 : w2.cell? ⟨w.heap.size, 3, none⟩ = some (.int .u64 (X 2)) := (hPw2.cell (p := ⟨_, _, none⟩) zaw1).trans a3w1
        have a4w2 : w2.cell? ⟨w.heap.size, 4, none⟩ = some (.int .u64 (X 3)) := (hPw2.cell (p := ⟨_, _, none⟩) zaw1).trans a4w1
        have zbw2 : w.heap.size + 1 < w2.heap.size := by omega
        have b0w2 : w2.cell? ⟨w.heap.size + 1, 0, none⟩ = some (.bool false) := (hPw2.cell (p := ⟨_, _, none⟩) zbw1).trans b0w1
        have b1w2 : w2.cell? ⟨w.heap.size + 1, 1, none⟩ = some (.int .u64 (Y 0)) := (hPw2.cell (p := ⟨_, _, none⟩) zbw1).trans b1w1
        have b2w2 : w2.cell? ⟨w.heap.size + 1, 2, none⟩ = some (.int .u64 (Y 1)) := (hPw2.cell (p := ⟨_, _, none⟩) zbw1).trans b2w1
        have b3w2 : w2.cell? ⟨w.heap.size + 1, 3, none⟩ = some (.int .u64 (Y 2)) := (hPw2.cell (p := ⟨_, _, none⟩) zbw1).trans b3w1
        have b4w2 : w2.cell? ⟨w.heap.size + 1, 4, none⟩ = some (.int .u64 (Y 3)) := (hPw2.cell (p := ⟨_, _, none⟩) zbw1).trans b4w1
        have zrw2 : w.heap.size + 1 + 1 < w2.heap.size := by omega
        have r0w2 : w2.cell? ⟨w.heap.size + 1 + 1, 0, none⟩ = some (.bool false) := (hPw2.cell (p := ⟨_, _, none⟩) zrw1).trans r0w1
        have r1w2 : w2.cell? ⟨w.heap.size + 1 + 1, 1, none⟩ = some (.int .u64 0) := (hPw2.cell (p := ⟨_, _, none⟩) zrw1).trans r1w1
        have r2w2 : w2.cell? ⟨w.heap.size + 1 + 1, 2, none⟩ = some (.int .u64 0) := (hPw2.cell (p := ⟨_, _, none⟩) zrw1).trans r2w1
        have r3w2 : w2.cell? ⟨w.heap.size + 1 + 1, 3, none⟩ = some (.int .u64 0) := (hPw2.cell (p := ⟨_, _, none⟩) zrw1).trans r3w1
        have r4w2 : w2.cell? ⟨w.heap.size + 1 + 1, 4, none⟩ = some (.int .u64 0) := (hPw2.cell (p := ⟨_, _, none⟩) zrw1).trans r4w1
        have fr0w2 : w2.frozen? ⟨w.heap.size + 1 + 1, 0, none⟩ = false := (hPw2.frozen (p := ⟨_, _, none⟩) zrw1).trans fr0w1
        have fr1w2 : w2.frozen? ⟨w.heap.size + 1 + 1, 1, none⟩ = false := (hPw2.frozen (p := ⟨_, _, none⟩) zrw1).trans fr1w1
        have fr2w2 : w2.frozen? ⟨w.heap.size + 1 + 1, 2, none⟩ = false := (hPw2.frozen (p := ⟨_, _, none⟩) zrw1).trans fr2w1
        have fr3w2 : w2.frozen? ⟨w.heap.size + 1 + 1, 3, none⟩ = false := (hPw2.frozen (p := ⟨_, _, none⟩) zrw1).trans fr3w1
        have fr4w2 : w2.frozen? ⟨w.heap.size + 1 + 1, 4, none⟩ = false := (hPw2.frozen (p := ⟨_, _, none⟩) zrw1).trans fr4w1
        have zdw2 : w1.heap.size < w2.heap.size := by omega
        have d0w2 : w2.cell? ⟨w1.heap.size, 0, none⟩ = some (.int .u64 (S 0)) := (hb.cell (p := ⟨_, _, none⟩) (by simp <;> omega)).trans (by simp [go_sem])
        have d1w2 : w2.cell? ⟨w1.heap.size, 1, none⟩ = some (.int .u64 (S 1)) := (hb.cell (p := ⟨_, _, none⟩) (by simp <;> omega)).trans (by simp [go_sem])
        have d2w2 : w2.cell? ⟨w1.heap.size, 2, none⟩ = some (.int .u64 (S 2)) := (hb.cell (p := ⟨_, _, none⟩) (by simp <;> omega)).trans (by simp [go_sem])
        have d3w2 : w2.cell? ⟨w1.heap.size, 3, none⟩ = some (.int .u64 (S 3)) := (hb.cell (p := ⟨_, _, none⟩) (by simp <;> omega)).trans (by simp [go_sem])
        have hBw2 : Below w.heap.size w w2 := below_step (w := w) (by first | assumption | go_grown) hb
        have HDT := Lib.hid hd
        have HET := Lib.hid he
        clear hd he
        clear hb hsw2 hPw2
        clear zaw1 zbw1 zrw1 a0w1 a1w1 a2w1 a3w1 a4w1 b0w1 b1w1 b2w1 b3w1 b4w1 r0w1 r1w1 r2w1 r3w1 r4w1 fr0w1 fr1w1 fr2w1 fr3w1 fr4w1
        obtain rfl : k2 = 0 := by
          have h0 := HLT.out
          have h1 := HET.out
          have h2 := valN_bd (by decide) HDT.out
          have h3 := HX.out.2.2
          have h4 := HY.out.2.2
          rw [pw4] at h1 h2
          omega
        clear hk2
        have HM : Hid (dig 18446744073709551616 4 T ∧ valN 18446744073709551616 T 4 = x + y) := ⟨HDT.out, by have h1 := HET.out; have h3 := HX.out.2.2; have h4 := HY.out.2.2; simp only [Int.zero_mul, Int.sub_zero] at h1; omega⟩
        have HSG : Hid (sgB false (valN 18446744073709551616 T 4) = SG) := by
          show _ = _
          rw [sgB_F, HM.out.2]
          exact HSG0.out
        go_wp2_with fail
        (go_at_call 52; refine (signed_any false _ T _ HM.out.1 rfl).mono ?_; rintro e_ w3 ⟨rfl, hb⟩)
        rw [HSG.out]
        have hsw3 := hb.size
        (try simp only [World.size_alloc, World.size_setCell] at hsw3)
        have zzw3 : w.heap.size < w3.heap.size := by omega
        have hPw3 : Below w2.heap.size w2 w3 := below_step (w := w2) (by first | exact Below.refl _ _ | go_grown) hb
        have zaw3 : w.heap.size < w3.heap.size := by omega
        have a0w3 : w3.cell? ⟨w.heap.size, 0, none⟩ = some (.bool true) := (hPw3.cell (p := ⟨_, _, none⟩) zaw2).trans a0w2
        have a1w3 : w3.cell? ⟨w.heap.size, 1, none⟩ = some (.int .u64 (X 0)) := (hPw3.cell (p := ⟨_, _, none⟩) zaw2).trans a1w2
        have a2w3 : w3.cell? ⟨w.heap.size, 2, none⟩ = some (.int .u64 (X 1)) := (hPw3.cell (p := ⟨_, _, none⟩) zaw2).trans a2w2
        have a3w3 : w3.cell? ⟨w.heap.size, 3, none⟩ = some (.int .u64 (X 2)) := (hPw3.cell (p := ⟨_, _, none⟩) zaw2).trans a3w2
        have a4w3 : w3.cell? ⟨w.heap.size, 4, none⟩ = some (.int .u64 (X 3)) := (hPw3.cell (p := ⟨_, _, none⟩) zaw2).trans a4w2
        have zbw3 : w.heap.size + 1 < w3.heap.size := by omega
        have b0w3 : w3.cell? ⟨w.heap.size + 1, 0, none⟩ = some (.bool false) := (hPw3.cell (p := ⟨_, _, none⟩) zbw2).trans b0w2
        have b1w3 : w3.cell? ⟨w.heap.size + 1, 1, none⟩ = some (.int .u64 (Y 0)) := (hPw3.cell (p := ⟨_, _, none⟩) zbw2).trans b1w2
        have b2w3 : w3.cell? ⟨w.heap.size + 1, 2, none⟩ = some (.int .u64 (Y 1)) := (hPw3.cell (p := ⟨_, _, none⟩) zbw2).trans b2w2
        have b3w3 : w3.cell? ⟨w.heap.size + 1, 3, none⟩ = some (.int .u64 (Y 2)) := (hPw3.cell (p := ⟨_, _, none⟩) zbw2).trans b3w2
        have b4w3 : w3.cell? ⟨w.heap.size + 1, 4, none⟩ = some (.int .u64 (Y 3)) := (hPw3.cell (p := ⟨_, _, none⟩) zbw2).trans b4w2
        have zrw3 : w.heap.size + 1 + 1 < w3.heap.size := by omega
        have r0w3 : w3.cell? ⟨w.heap.size + 1 + 1, 0, none⟩ = some (.bool false) := (hPw3.cell (p := ⟨_, _, none⟩) zrw2).trans r0w2
        have r1w3 : w3.cell? ⟨w.heap.size + 1 + 1, 1, none⟩ = some (.int .u64 0) := (hPw3.cell (p := ⟨_, _, none⟩) zrw2).trans r1w2
        have r2w3 : w3.cell? ⟨w.heap.size + 1 + 1, 2, none⟩ = some (.int .u64 0) := (hPw3.cell (p := ⟨_, _, none⟩) zrw2).trans r2w2
        have r3w3 : w3.cell? ⟨w.heap.size + 1 + 1, 3, none⟩ = some (.int .u64 0) := (hPw3.cell (p := ⟨_, _, none⟩) zrw2).trans r3w2
        have r4w3 : w3.cell? ⟨w.heap.size + 1 + 1, 4, none⟩ = some (.int .u64 0) := (hPw3.cell (p := ⟨_, _, none⟩) zrw2).trans r4w2
        have fr0w3 : w3.frozen? ⟨w.heap.size + 1 + 1, 0, none⟩ = false := (hPw3.frozen (p := ⟨_, _, none⟩) zrw2).trans fr0w2
        have fr1w3 : w3.frozen? ⟨w.heap.size + 1 + 1, 1, none⟩ = false := (hPw3.frozen (p := ⟨_, _, none⟩) zrw2).trans fr1w2
        have fr2w3 : w3.frozen? ⟨w.heap.size + 1 + 1, 2, none⟩ = false := (hPw3.frozen (p := ⟨_, _, none⟩) zrw2).trans fr2w2
        have fr3w3 : w3.frozen? ⟨w.heap.size + 1 + 1, 3, none⟩ = false := (hPw3.frozen (p := ⟨_, _, none⟩) zrw2).trans fr3w2
        have fr4w3 : w3.frozen? ⟨w.heap.size + 1 + 1, 4, none⟩ = false := (hPw3.frozen (p := ⟨_, _, none⟩) zrw2).trans fr4w2
        have zdw3 : w1.heap.size < w3.heap.size := by omega
        have d0w3 : w3.cell? ⟨w1.heap.size, 0, none⟩ = some (.int .u64 (S 0)) := (hPw3.cell (p := ⟨_, _, none⟩) zdw2).trans d0w2
        have d1w3 : w3.cell? ⟨w1.heap.size, 1, none⟩ = some (.int .u64 (S 1)) := (hPw3.cell (p := ⟨_, _, none⟩) zdw2).trans d1w2
        have d2w3 : w3.cell? ⟨w1.heap.size, 2, none⟩ = some (.int .u64 (S 2)) := (hPw3.cell (p := ⟨_, _, none⟩) zdw2).trans d2w2
        have d3w3 : w3.cell? ⟨w1.heap.size, 3, none⟩ = some (.int .u64 (S 3)) := (hPw3.cell (p := ⟨_, _, none⟩) zdw2).trans d3w2
        have zew3 : w2.heap.size < w3.heap.size := by omega
        have e0w3 : w3.cell? ⟨w2.heap.size, 0, none⟩ = some (.int .u64 (T 0)) := (hb.cell (p := ⟨_, _, none⟩) (by simp <;> omega)).trans (by simp [go_sem])
        have e1w3 : w3.cell? ⟨w2.heap.size, 1, none⟩ = some (.int .u64 (T 1)) := (hb.cell (p := ⟨_, _, none⟩) (by simp <;> omega)).trans (by simp [go_sem])
        have e2w3 : w3.cell? ⟨w2.heap.size, 2, none⟩ = some (.int .u64 (T 2)) := (hb.cell (p := ⟨_, _, none⟩) (by simp <;> omega)).trans (by simp [go_sem])
        have e3w3 : w3.cell? ⟨w2.heap.size, 3, none⟩ = some (.int .u64 (T 3)) := (hb.cell (p := ⟨_, _, none⟩) (by simp <;> omega)).trans (by simp [go_sem])
        have hBw3 : Below w.heap.size w w3 := below_step (w := w) (by first | assumption | go_grown) hb
        clear hb hsw3 hPw3
        clear zaw2 zbw2 zrw2 zdw2 a0w2 a1w2 a2w2 a3w2 a4w2 b0w2 b1w2 b2w2 b3w2 b4w2 r0w2 r1w2 r2w2 r3w2 r4w2 d0w2 d1w2 d2w2 d3w2 fr0w2 fr1w2 fr2w2 fr3w2 fr4w2
        go_wp2
        all_goals (refine bodyPost_ret (v := .tuple #[.agg #[.bool SG, .int .u64 (T 0), .int .u64 (T 1), .int .u64 (T 2), .int .u64 (T 3)], .int .i64 0]) (by simp (maxDischargeDepth := 9) [results, Try.results51, go_sem, *]) rfl ?_)
        refine ⟨T, rfl, ?_, by go_grown⟩
        have h := isW_sgF HM.out.1 rfl
        rw [HSG.out, HM.out.2] at h
        exact h
  | false =>
    cases by' with
    | true =>
      have hx2 := of_decide_eq_false HX.out.1.symm
      have hy2 := of_decide_eq_true HY.out.1.symm
      have hbx := isW_lt HX.out
      have hby := isW_lt HY.out
      go_enter Try.func51, Try.ntmps51
      go_wp2_with fail
      (go_at_call 72; refine (minus_any X Y _ HX.out.2.1 HY.out.2.1).mono ?_; rintro e_ w1 ⟨S, k, rfl, hd, hk, he, hb⟩)
      have hsw1 := hb.size
      (try simp only [World.size_alloc, World.size_setCell] at hsw1)
      have zzw1 : w.heap.size < w1.heap.size := by omega
      have hPw1 : Below w.heap.size w w1 := below_step (w := w) (by first | exact Below.refl _ _ | go_grown) hb
      have zaw1 : w.heap.size < w1.heap.size := by omega
      have a0w1 : w1.cell? ⟨w.heap.size, 0, none⟩ = some (.bool false) := (hb.cell (p := ⟨_, _, none⟩) (by simp <;> omega)).trans (by simp [go_sem])
      have a1w1 : w1.cell? ⟨w.heap.size, 1, none⟩ = some (.int .u64 (X 0)) := (hb.cell (p := ⟨_, _, none⟩) (by simp <;> omega)).trans (by simp [go_sem])
      have a2w1 : w1.cell? ⟨w.heap.size, 2, none⟩ = some (.int .u64 (X 1)) := (hb.cell (p := ⟨_, _, none⟩) (by simp <;> omega)).trans (by simp [go_sem])
      have a3w1 : w1.cell? ⟨w.heap.size, 3, none⟩ = some (.int .u64 (X 2)) := (hb.cell (p := ⟨_, _, none⟩) (by simp <;> omega)).trans (by simp [go_sem])
      have a4w1 : w1.cell? ⟨w.heap.size, 4, none⟩ = some (.int .u64 (X 3)) := (hb.cell (p := ⟨_, _, none⟩) (by simp <;> omega)).trans (by simp [go_sem])
      have zbw1 : w.heap.size + 1 < w1.heap.size := by omega
      have b0w1 : w1.cell? ⟨w.heap.size + 1, 0, none⟩ = some (.bool true) := (hb.cell (p := ⟨_, _, none⟩) (by simp <;> omega)).trans (by simp [go_sem])
      have b1w1 : w1.cell? ⟨w.heap.size + 1, 1, none⟩ = some (.int .u64 (Y 0)) := (hb.cell (p := ⟨_, _, none⟩) (by simp <;> omega)).trans (by simp [go_sem])
      have b2w1 : w1.cell? ⟨w.heap.size + 1, 2, none⟩ = some (.int .u64 (Y 1)) := (hb.cell (p := ⟨_, _, none⟩) (by simp <;> omega)).trans (by simp [go_sem])
      have b3w1 : w1.cell? ⟨w.heap.size + 1, 3, none⟩ = some (.int .u64 (Y 2)) := (hb.cell (p := ⟨_, _, none⟩) (by simp <;> omega)).trans (by simp [go_sem])
      have b4w1 : w1.cell? ⟨w.heap.size + 1, 4, none⟩ = some (.int .u64 (Y 3)) := (hb.cell (p := ⟨_, _, none⟩) (by simp <;> omega)).trans (by simp [go_sem])
      have zrw1 : w.heap.size + 1 + 1 < w1.heap.size := by omega
      have r0w1 : w1.cell? ⟨w.heap.size + 1 + 1, 0, none⟩ = some (.bool false) := (hb.cell (p := ⟨_, _, none⟩) (by simp <;> omega)).trans (by simp [go_sem])
      have r1w1 : w1.cell? ⟨w.heap.size + 1 + 1, 1, none⟩ = some (.int .u64 0) := (hb.cell (p := ⟨_, _, none⟩) (by simp <;> omega)).trans (by simp [go_sem])
      have r2w1 : w1.cell? ⟨w.heap.size + 1 + 1, 2, none⟩ = some (.int .u64 0) := (hb.cell (p := ⟨_, _, none⟩) (by simp <;> omega)).trans (by simp [go_sem])
      have r3w1 : w1.cell? ⟨w.heap.size + 1 + 1, 3, none⟩ = some (.int .u64 0) := (hb.cell (p := ⟨_, _, none⟩) (by simp <;> omega)).trans (by simp [go_sem])
      have r4w1 : w1.cell? ⟨w.heap.size + 1 + 1, 4, none⟩ = some (.int .u64 0) := (hb.cell (p := ⟨_, _, none⟩) (by simp <;> omega)).trans (by simp [go_sem])
      have fr0w1 : w1.frozen? ⟨w.heap.size + 1 + 1, 0, none⟩ = false := (hb.frozen (p := ⟨_, _, none⟩) (by simp <;> omega)).trans (by simp [go_sem])
      have fr1w1 : w1.frozen? ⟨w.heap.size + 1 + 1, 1, none⟩ = false := (hb.frozen (p := ⟨_, _, none⟩) (by simp <;> omega)).trans (by simp [go_sem])
      have fr2w1 : w1.frozen? ⟨w.heap.size + 1 + 1, 2, none⟩ = false := (hb.frozen (p := ⟨_, _, none⟩) (by simp <;> omega)).trans (by simp [go_sem])
      have fr3w1 : w1.frozen? ⟨w.heap.size + 1 + 1, 3, none⟩ = false := (hb.frozen (p := ⟨_, _, none⟩) (by simp <;> omega)).trans (by simp [go_sem])
      have fr4w1 : w1.frozen? ⟨w.heap.size + 1 + 1, 4, none⟩ = false := (hb.frozen (p := ⟨_, _, none⟩) (by simp <;> omega)).trans (by simp [go_sem])
      have hBw1 : Below w.heap.size w w1 := below_step (w := w) (by first | assumption | go_grown) hb
      have HDS := Lib.hid hd
      have HES := Lib.hid he
      clear hd he
      clear hb hsw1 hPw1
      by_cases h0 : k = 0
      · subst h0
        clear hk
        have HM : Hid (dig 18446744073709551616 4 S ∧ valN 18446744073709551616 S 4 = x + y) := ⟨HDS.out, by have h1 := HES.out; have h3 := HX.out.2.2; have h4 := HY.out.2.2; simp only [Int.zero_mul, Int.sub_zero] at h1; omega⟩
        have HSG : Hid (sgB false (valN 18446744073709551616 S 4) = SG) := by
          show _ = _
          rw [sgB_F, HM.out.2]
          exact HSG0.out
        go_wp2_with fail
        (go_at_call 52; refine (signed_any false _ S _ HM.out.1 rfl).mono ?_; rintro e_ w2 ⟨rfl, hb⟩)
        rw [HSG.out]
        have hsw2 := hb.size
        (try simp only [World.size_alloc, World.size_setCell] at hsw2)
        have zzw2 : w.heap.size < w2.heap.size := by omega
        have hPw2 : Below w1.heap.size w1 w2 := below_step (w := w1) (by first | exact Below.refl _ _ | go_grown) hb
        have zaw2 : w.heap.size < w2.heap.size := by omega
        have a0w2 : w2.cell? ⟨w.heap.size, 0, none⟩ = some (.bool false) := (hPw2.cell (p := ⟨_, _, none⟩) zaw1).trans a0w1
        have a1w2 : w2.cell? ⟨w.heap.size, 1, none⟩ = some (.int .u64 (X 0)) := (hPw2.cell (p := ⟨_, _, none⟩) zaw1).trans a1w1
        have a2w2 : w2.cell? ⟨w.heap.size, 2, none⟩ = some (.int .u64 (X 1)) := (hPw2.cell (p := ⟨_, _, none⟩) zaw1).trans a2w1
        have a3w2 : w2.cell? ⟨w.heap.size, 3, none⟩ = some (.int .u64 (X 2)) := (hPw2.cell (p := ⟨_, _, none⟩) zaw1).trans a3w1
        have a4w2 : w2.cell? ⟨w.heap.size, 4, none⟩ = some (.int .u64 (X 3)) := (hPw2.cell (p := ⟨_, _, none⟩) zaw1).trans a4w1
        have zbw2 : w.heap.size + 1 < w2.heap.size := by omega
        have b0w2 : w2.cell? ⟨w.heap.size + 1, 0, none⟩ = some (.bool true) := (hPw2.cell (p := ⟨_, _, none⟩) zbw1).trans b0w1
        have b1w2 : w2.cell? ⟨w.heap.size + 1, 1, none⟩ = some (.int .u64 (Y 0)) := (hPw2.cell (p := ⟨_, _, none⟩) zbw1).trans b1w1
        have b2w2 : w2.cell? ⟨w.heap.size + 1, 2, none⟩ = some (.int .u64 (Y 1)) := (hPw2.cell (p := ⟨_, _, none⟩) zbw1).trans b2w1
        have b3w2 : w2.cell? ⟨w.heap.size + 1, 3, none⟩ = some (.int .u64 (Y 2)) := (hPw2.cell (p := ⟨_, _, none⟩) zbw1).trans b3w1
        have b4w2 : w2.cell? ⟨w.heap.size + 1, 4, none⟩ = some (.int .u64 (Y 3)) := (hPw2.cell (p := ⟨_, _, none⟩) zbw1).trans b4w1
        have zrw2 : w.heap.size + 1 + 1 < w2.heap.size := by omega
        have r0w2 : w2.cell? ⟨w.heap.size + 1 + 1, 0, none⟩ = some (.bool false) := (hPw2.cell (p := ⟨_, _, none⟩) zrw1).trans r0w1
        have r1w2 : w2.cell? ⟨w.heap.size + 1 + 1, 1, none⟩ = some (.int .u64 0) := (hPw2.cell (p := ⟨_, _, none⟩) zrw1).trans r1w1
        have r2w2 : w2.cell? ⟨w.heap.size + 1 + 1, 2, none⟩ = some (.int .u64 0) := (hPw2.cell (p := ⟨_, _, none⟩) zrw1).trans r2w1
        have r3w2 : w2.cell? ⟨w.heap.size + 1 + 1, 3, none⟩ = some (.int .u64 0) := (hPw2.cell (p := ⟨_, _, none⟩) zrw1).trans r3w1
        have r4w2 : w2.cell? ⟨w.heap.size + 1 + 1, 4, none⟩ = some (.int .u64 0) := (hPw2.cell (p := ⟨_, _, none⟩) zrw1).trans r4w1
        have fr0w2 : w2.frozen? ⟨w.heap.size + 1 + 1, 0, none⟩ = false := (hPw2.frozen (p := ⟨_, _, none⟩) zrw1).trans fr0w1
        have fr1w2 : w2.frozen? ⟨w.heap.size + 1 + 1, 1, none⟩ = false := (hPw2.frozen (p := ⟨_, _, none⟩) zrw1).trans fr1w1
        have fr2w2 : w2.frozen? ⟨w.heap.size + 1 + 1, 2, none⟩ = false := (hPw2.frozen (p := ⟨_, _, none⟩) zrw1).trans fr2w1
        have fr3w2 : w2.frozen? ⟨w.heap.size + 1 + 1, 3, none⟩ = false := (hPw2.frozen (p := ⟨_, _, none⟩) zrw1).trans fr3w1
        have fr4w2 : w2.frozen? ⟨w.heap.size + 1 + 1, 4, none⟩ = false := (hPw2.frozen (p := ⟨_, _, none⟩) zrw1).trans fr4w1
        have zdw2 : w1.heap.size < w2.heap.size := by omega
        have d0w2 : w2.cell? ⟨w1.heap.size, 0, none⟩ = some (.int .u64 (S 0)) := (hb.cell (p := ⟨_, _, none⟩) (by simp <;> omega)).trans (by simp [go_sem])
        have d1w2 : w2.cell? ⟨w1.heap.size, 1, none⟩ = some (.int .u64 (S 1)) := (hb.cell (p := ⟨_, _, none⟩) (by simp <;> omega)).trans (by simp [go_sem])
        have d2w2 : w2.cell? ⟨w1.heap.size, 2, none⟩ = some (.int .u64 (S 2)) := (hb.cell (p := ⟨_, _, none⟩) (by simp <;> omega)).trans (by simp [go_sem])
        have d3w2 : w2.cell? ⟨w1.heap.size, 3, none⟩ = some (.int .u64 (S 3)) := (hb.cell (p := ⟨_, _, none⟩) (by simp <;> omega)).trans (by simp [go_sem])
        have hBw2 : Below w.heap.size w w2 := below_step (w := w) (by first | assumption | go_grown) hb
        clear hb hsw2 hPw2
        clear zaw1 zbw1 zrw1 a0w1 a1w1 a2w1 a3w1 a4w1 b0w1 b1w1 b2w1 b3w1 b4w1 r0w1 r1w1 r2w1 r3w1 r4w1 fr0w1 fr1w1 fr2w1 fr3w1 fr4w1
        go_wp2
        all_goals (refine bodyPost_ret (v := .tuple #[.agg #[.bool SG, .int .u64 (S 0), .int .u64 (S 1), .int .u64 (S 2), .int .u64 (S 3)], .int .i64 0]) (by simp (maxDischargeDepth := 9) [results, Try.results51, go_sem, *]) rfl ?_)
        refine ⟨S, rfl, ?_, by go_grown⟩
        have h := isW_sgF HM.out.1 rfl
        rw [HSG.out, HM.out.2] at h
        exact h
      · obtain rfl : k = 1 := by omega
        clear hk h0
        have HLT : Hid ((x.natAbs : Int) < y.natAbs) := by
          show _ < _
          have h1 := HES.out
          have h2 := valN_bd (by decide) HDS.out
          have h3 := HX.out.2.2
          have h4 := HY.out.2.2
          rw [pw4] at h1 h2
          omega
        go_wp2_with fail
        (go_at_call 72; refine (minus_any Y X _ HY.out.2.1 HX.out.2.1).mono ?_; rintro e_ w2 ⟨T, k2, rfl, hd, hk2, he, hb⟩)
        have hsw2 := hb.size
        (try simp only [World.size_alloc, World.size_setCell] at hsw2)
        have zzw2 : w.heap.size < w2.heap.size := by omega
        have hPw2 : Below w1.heap.size w1 w2 := below_step (w := w1) (by first | exact Below.refl _ _ | go_grown) hb
        have zaw2 : w.heap.size < w2.heap.size := by omega
        have a0w2 : w2.cell? ⟨w.heap.size, 0, none⟩ = some (.bool false) := (hPw2.cell (p := ⟨_, _, none⟩) zaw1).trans a0w1
        have a1w2 : w2.cell? ⟨w.heap.size, 1, none⟩ = some (.int .u64 (X 0)) := (hPw2.cell (p := ⟨_, _, none⟩) zaw1).trans a1w1
        have a2w2 : w2.cell? ⟨w.heap.size, 2, none⟩ = some (.int .u64 (X 1)) := (hPw2.cell (p := ⟨_, _, none⟩) zaw1).trans a2w1
        have a3w2 : w2.cell? ⟨w.heap.size, 3, none⟩ = some (.int .u64 (X 2)) := (hPw2.cell (p := ⟨_, _, none⟩) zaw1).trans a3w1
        have a4w2 : w2.cell? ⟨w.heap.size, 4, none⟩ = some (.int .u64 (X 3)) := (hPw2.cell (p := ⟨_, _, none⟩) zaw1).trans a4w1
        have zbw2 : w.heap.size + 1 < w2.heap.size := by omega
        have b0w2 : w2.cell? ⟨w.heap.size + 1, 0, none⟩ = some (.bool true) := (hPw2.cell (p := ⟨_, _, none⟩) zbw1).trans b0w1
        have b1w2 : w2.cell? ⟨w.heap.size + 1, 1, none⟩ = some (.int .u64 (Y 0)) := (hPw2.cell (p := ⟨_, _, none⟩) zbw1).trans b1w1
        have b2w2 : w2.cell? ⟨w.heap.size + 1, 2, none⟩ = some (.int .u64 (Y 1)) := (hPw2.cell (p := ⟨_, _, none⟩) zbw1).trans b2w1
        have b3w2 : w2.cell? ⟨w.heap.size + 1, 3, none⟩ = some (.int .u64 (Y 2)) := (hPw2.cell (p := ⟨_, _, none⟩) zbw1).trans b3w1
        have b4w2 : w2.cell? ⟨w.heap.size + 1, 4, none⟩ = some (.int .u64 (Y 3)) := (hPw2.cell (p := ⟨_, _, none⟩) zbw1).trans b4w1
        have zrw2 : w.heap.size + 1 + 1 < w2.heap.size := by omega
        have r0w2 : w2.cell? ⟨w.heap.size + 1 + 1, 0, none⟩ = some (.bool false) := (hPw2.cell (p := ⟨_, _, none⟩) zrw1).trans r0w1
        have r1w2 : w2.cell? ⟨w.heap.size + 1 + 1, 1, none⟩ = some (.int .u64 0) := (hPw2.cell (p := ⟨_, _, none⟩) zrw1).trans r1w1
        have r2w2 : w2.cell? ⟨w.heap.size + 1 + 1, 2, none⟩ = some (.int .u64 0) := (hPw2.cell (p := ⟨_, _, none⟩) zrw1).trans r2w1
        have r3w2 : w2.cell? ⟨w.heap.size + 1 + 1, 3, none⟩ = some (.int .u64 0) := (hPw2.cell (p := ⟨_, _, none⟩) zrw1).trans r3w1
        have r4w2 : w2.cell? ⟨w.heap.size + 1 + 1, 4, none⟩ = some (.int .u64 0) := (hPw2.cell (p := ⟨_, _, none⟩) zrw1).trans r4w1
        have fr0w2 : w2.frozen? ⟨w.heap.size + 1 + 1, 0, none⟩ = false := (hPw2.frozen (p := ⟨_, _, none⟩) zrw1).trans fr0w1
        have fr1w2 : w2.frozen? ⟨w.heap.size + 1 + 1, 1, none⟩ = false := (hPw2.frozen (p := ⟨_, _, none⟩) zrw1).trans fr1w1
        have fr2w2 : w2.frozen? ⟨w.heap.size + 1 + 1, 2, none⟩ = false := (hPw2.frozen (p := ⟨_, _, none⟩) zrw1).trans fr2w1
        have fr3w2 : w2.frozen? ⟨w.heap.size + 1 + 1, 3, none⟩ = false := (hPw2.frozen (p := ⟨_, _, none⟩) zrw1).trans fr3w1
        have fr4w2 : w2.frozen? ⟨w.heap.size + 1 + 1, 4, none⟩ = false := (hPw2.frozen (p := ⟨_, _, none⟩) zrw1).trans fr4w1
        have zdw2 : w1.heap.size < w2.heap.size := by omega
        have d0w2 : w2.cell? ⟨w1.heap.size, 0, none⟩ = some (.int .u64 (S 0)) := (hb.cell (p := ⟨_, _, none⟩) (by simp <;> omega)).trans (by simp [go_sem])
        have d1w2 : w2.cell? ⟨w1.heap.size, 1, none⟩ = some (.int .u64 (S 1)) := (hb.cell (p := ⟨_, _, none⟩) (by simp <;> omega)).trans (by simp [go_sem])
        have d2w2 : w2.cell? ⟨w1.heap.size, 2, none⟩ = some (.int .u64 (S 2)) := (hb.cell (p := ⟨_, _, none⟩) (by simp <;> omega)).trans (by simp [go_sem])
        have d3w2 : w2.cell? ⟨w1.heap.size, 3, none⟩ = some (.int .u64 (S 3)) := (hb.cell (p := ⟨_, _, none⟩) (by simp <;> omega)).trans (by simp [go_sem])
        have hBw2 : Below w.heap.size w w2 := below_step (w := w) (by first | assumption | go_grown) hb
        have HDT := Lib.hid hd
        have HET := Lib.hid he
        clear hd he
        clear hb hsw2 hPw2
        clear zaw1 zbw1 zrw1 a0w1 a1w1 a2w1 a3w1 a4w1 b0w1 b1w1 b2w1 b3w1 b4w1 r0w1 r1w1 r2w1 r3w1 r4w1 fr0w1 fr1w1 fr2w1 fr3w1 fr4w1
        obtain rfl : k2 = 0 := by
          have h0 := HLT.out
          have h1 := HET.out
          have h2 := valN_bd (by decide) HDT.out
          have h3 := HX.out.2.2
          have h4 := HY.out.2.2
          rw [pw4] at h1 h2
          omega
        clear hk2
        have HM : Hid (dig 18446744073709551616 4 T ∧ -(valN 18446744073709551616 T 4) = x + y) := ⟨HDT.out, by have h1 := HET.out; have h3 := HX.out.2.2; have h4 := HY.out.2.2; simp only [Int.zero_mul, Int.sub_zero] at h1; omega⟩
        have HSG : Hid (sgB true (valN 18446744073709551616 T 4) = SG) := by
          show _ = _
          rw [sgB_T, HM.out.2]
          exact HSG0.out
        go_wp2_with fail
        (go_at_call 52; refine (signed_any true _ T _ HM.out.1 rfl).mono ?_; rintro e_ w3 ⟨rfl, hb⟩)
        rw [HSG.out]
        have hsw3 := hb.size
        (try simp only [World.size_alloc, World.size_setCell] at hsw3)
        have zzw3 : w.heap.size < w3.heap.size := by omega
        have hPw3 : Below w2.heap.size w2 w3 := below_step (w := w2) (by first | exact Below.refl _ _ | go_grown) hb
        have zaw3 : w.heap.size < w3.heap.size := by omega
        have a0w3 : w3.cell? ⟨w.heap.size, 0, none⟩ = some (.bool false) := (hPw3.cell (p := ⟨_, _, none⟩) zaw2).trans a0w2
        have a1w3 : w3.cell? ⟨w.heap.size, 1, none⟩ = some (.int .u64 (X 0)) := (hPw3.cell (p := ⟨_, _, none⟩) zaw2).trans a1w2
        have a2w3 : w3.cell? ⟨w.heap.size, 2, none⟩ = some (.int .u64 (X 1)) := (hPw3.cell (p := ⟨_, _, none⟩) zaw2).trans a2w2
        have a3w3 : w3.cell? ⟨w.heap.size, 3, none⟩ = some (.int .u64 (X 2)) := (hPw3.cell (p := ⟨_, _, none⟩) zaw2).trans a3w2
        have a4w3 : w3.cell? ⟨w.heap.size, 4, none⟩ = some (.int .u64 (X 3)) := (hPw3.cell (p := ⟨_, _, none⟩) zaw2).trans a4w2
        have zbw3 : w.heap.size + 1 < w3.heap.size := by omega
        have b0w3 : w3.cell? ⟨w.heap.size + 1, 0, none⟩ = some (.bool true) := (hPw3.cell (p := ⟨_, _, none⟩) zbw2).trans b0w2
        have b1w3 : w3.cell? ⟨w.heap.size + 1, 1, none⟩ = some (.int .u64 (Y 0)) := (hPw3.cell (p := ⟨_, _, none⟩) zbw2).trans b1w2
        have b2w3 : w3.cell? ⟨w.heap.size + 1, 2, none⟩ = some (.int .u64 (Y 1)) := (hPw3.cell (p := ⟨_, _, none⟩) zbw2).trans b2w2
        have b3w3 : w3.cell? ⟨w.heap.size + 1, 3, none⟩ = some (.int .u64 (Y 2)) := (hPw3.cell (p := ⟨_, _, none⟩) zbw2).trans b3w2
        have b4w3 : w3.cell? ⟨w.heap.size + 1, 4, none⟩ = some (.int .u64 (Y 3)) := (hPw3.cell (p := ⟨_, _, none⟩) zbw2).trans b4w2
        have zrw3 : w.heap.size + 1 + 1 < w3.heap.size := by omega
        have r0w3 : w3.cell? ⟨w.heap.size + 1 + 1, 0, none⟩ = some (.bool false) := (hPw3.cell (p := ⟨_, _, none⟩) zrw2).trans r0w2
        have r1w3 : w3.cell? ⟨w.heap.size + 1 + 1, 1, none⟩ = some (.int .u64 0) := (hPw3.cell (p := ⟨_, _, none⟩) zrw2).trans r1w2
        have r2w3 : w3.cell? ⟨w.heap.size + 1 + 1, 2, none⟩ = some (.int .u64 0) := (hPw3.cell (p := ⟨_, _, none⟩) zrw2).trans r2w2
        have r3w3 : w3.cell? ⟨w.heap.size + 1 + 1, 3, none⟩ = some (.int .u64 0) := (hPw3.cell (p := ⟨_, _, none⟩) zrw2).trans r3w2
        have r4w3 : w3.cell? ⟨w.heap.size + 1 + 1, 4, none⟩ = some (.int .u64 0) := (hPw3.cell (p := ⟨_, _, none⟩) zrw2).trans r4w2
        have fr0w3 : w3.frozen? ⟨w.heap.size + 1 + 1, 0, none⟩ = false := (hPw3.frozen (p := ⟨_, _, none⟩) zrw2).trans fr0w2
        have fr1w3 : w3.frozen? ⟨w.heap.size + 1 + 1, 1, none⟩ = false := (hPw3.frozen (p := ⟨_, _, none⟩) zrw2).trans fr1w2
        have fr2w3 : w3.frozen? ⟨w.heap.size + 1 + 1, 2, none⟩ = false := (hPw3.frozen (p := ⟨_, _, none⟩) zrw2).trans fr2w2
        have fr3w3 : w3.frozen? ⟨w.heap.size + 1 + 1, 3, none⟩ = false := (hPw3.frozen (p := ⟨_, _, none⟩) zrw2).trans fr3w2
        have fr4w3 : w3.frozen? ⟨w.heap.size + 1 + 1, 4, none⟩ = false := (hPw3.frozen (p := ⟨_, _, none⟩) zrw2).trans fr4w2
        have zdw3 : w1.heap.size < w3.heap.size := by omega
        have d0w3 : w3.cell? ⟨w1.heap.size, 0, none⟩ = some (.int .u64 (S 0)) := (hPw3.cell (p := ⟨_, _, none⟩) zdw2).trans d0w2
        have d1w3 : w3.cell? ⟨w1.heap.size, 1, none⟩ = some (.int .u64 (S 1)) := (hPw3.cell (p := ⟨_, _, none⟩) zdw2).trans d1w2
        have d2w3 : w3.cell? ⟨w1.heap.size, 2, none⟩ = some (.int .u64 (S 2)) := (hPw3.cell (p := ⟨_, _, none⟩) zdw2).trans d2w2
        have d3w3 : w3.cell? ⟨w1.heap.size, 3, none⟩ = some (.int .u64 (S 3)) := (hPw3.cell (p := ⟨_, _, none⟩) zdw2).trans d3w2
        have zew3 : w2.heap.size < w3.heap.size := by omega
        have e0w3 : w3.cell? ⟨w2.heap.size, 0, none⟩ = some (.int .u64 (T 0)) := (hb.cell (p := ⟨_, _, none⟩) (by simp <;> omega)).trans (by simp [go_sem])
        have e1w3 : w3.cell? ⟨w2.heap.size, 1, none⟩ = some (.int .u64 (T 1)) := (hb.cell (p := ⟨_, _, none⟩) (by simp <;> omega)).trans (by simp [go_sem])
        have e2w3 : w3.cell? ⟨w2.heap.size, 2, none⟩ = some (.int .u64 (T 2)) := (hb.cell (p := ⟨_, _, none⟩) (by simp <;> omega)).trans (by simp [go_sem])
        have e3w3 : w3.cell? ⟨w2.heap.size, 3, none⟩ = some (.int .u64 (T 3)) := (hb.cell (p := ⟨_, _, none⟩) (by simp <;> omega)).trans (by simp [go_sem])
        have hBw3 : Below w.heap.size w w3 := below_step (w := w) (by first | assumption | go_grown) hb
        clear hb hsw3 hPw3
        clear zaw2 zbw2 zrw2 zdw2 a0w2 a1w2 a2w2 a3w2 a4w2 b0w2 b1w2 b2w2 b3w2 b4w2 r0w2 r1w2 r2w2 r3w2 r4w2 d0w2 d1w2 d2w2 d3w2 fr0w2 fr1w2 fr2w2 fr3w2 fr4w2
        go_wp2
        all_goals (refine bodyPost_ret (v := .tuple #[.agg #[.bool SG, .int .u64 (T 0), .int .u64 (T 1), .int .u64 (T 2), .int .u64 (T 3)], .int .i64 0]) (by simp (maxDischargeDepth := 9) [results, Try.results51, go_sem, *]) rfl ?_)
        refine ⟨T, rfl, ?_, by go_grown⟩
        have h := isW_sgT HM.out.1 rfl
        rw [HSG.out, HM.out.2] at h
        exact h
    | false =>
      have hx2 := of_decide_eq_false HX.out.1.symm
      have hy2 := of_decide_eq_false HY.out.1.symm
      have hbx := isW_lt HX.out
      have hby := isW_lt HY.out
      go_enter Try.func51, Try.ntmps51
      go_wp2_with fail
      (go_at_call 73; refine (plus_any X Y _ HX.out.2.1 HY.out.2.1).mono ?_; rintro e_ w1 ⟨S, k, rfl, hd, hk, he, hb⟩)
      have hsw1 := hb.size
      (try simp only [World.size_alloc, World.size_setCell] at hsw1)
      have zzw1 : w.heap.size < w1.heap.size := by omega
      have hPw1 : Below w.heap.size w w1 := below_step (w := w) (by first | exact Below.refl _ _ | go_grown) hb
      have zaw1 : w.heap.size < w1.heap.size := by omega
      have a0w1 : w1.cell? ⟨w.heap.size, 0, none⟩ = some (.bool false) := (hb.cell (p := ⟨_, _, none⟩) (by simp <;> omega)).trans (by simp [go_sem])
      have a1w1 : w1.cell? ⟨w.heap.size, 1, none⟩ = some (.int .u64 (X 0)) := (hb.cell (p := ⟨_, _, none⟩) (by simp <;> omega)).trans (by simp [go_sem])
      have a2w1 : w1.cell? ⟨w.heap.size, 2, none⟩ = some (.int .u64 (X 1)) := (hb.cell (p := ⟨_, _, none⟩) (by simp <;> omega)).trans (by simp [go_sem])
      have a3w1 : w1.cell? ⟨w.heap.size, 3, none⟩ = some (.int .u64 (X 2)) := (hb.cell (p := ⟨_, _, none⟩) (by simp <;> omega)).trans (by simp [go_sem])
      have a4w1 : w1.cell? ⟨w.heap.size, 4, none⟩ = some (.int .u64 (X 3)) := (hb.cell (p := ⟨_, _, none⟩) (by simp <;> omega)).trans (by simp [go_sem])
      have zbw1 : w.heap.size + 1 < w1.heap.size := by omega
      have b0w1 : w1.cell? ⟨w.heap.size + 1, 0, none⟩ = some (.bool false) := (hb.cell (p := ⟨_, _, none⟩) (by simp <;> omega)).trans (by simp [go_sem])
      have b1w1 : w1.cell? ⟨w.heap.size + 1, 1, none⟩ = some (.int .u64 (Y 0)) := (hb.cell (p := ⟨_, _, none⟩) (by simp <;> omega)).trans (by simp [go_sem])
      have b2w1 : w1.cell? ⟨w.heap.size + 1, 2, none⟩ = some (.int .u64 (Y 1)) := (hb.cell (p := ⟨_, _, none⟩) (by simp <;> omega)).trans (by simp [go_sem])
      have b3w1 : w1.cell? ⟨w.heap.size + 1, 3, none⟩ = some (.int .u64 (Y 2)) := (hb.cell (p := ⟨_, _, none⟩) (by simp <;> omega)).trans (by simp [go_sem])
      have b4w1 : w1.cell? ⟨w.heap.size + 1, 4, none⟩ = some (.int .u64 (Y 3)) := (hb.cell (p := ⟨_, _, none⟩) (by simp <;> omega)).trans (by simp [go_sem])
      have zrw1 : w.heap.size + 1 + 1 < w1.heap.size := by omega
      have r0w1 : w1.cell? ⟨w.heap.size + 1 + 1, 0, none⟩ = some (.bool false) := (hb.cell (p := ⟨_, _, none⟩) (by simp <;> omega)).trans (by simp [go_sem])
      have r1w1 : w1.cell? ⟨w.heap.size + 1 + 1, 1, none⟩ = some (.int .u64 0) := (hb.cell (p := ⟨_, _, none⟩) (by simp <;> omega)).trans (by simp [go_sem])
      have r2w1 : w1.cell? ⟨w.heap.size + 1 + 1, 2, none⟩ = some (.int .u64 0) := (hb.cell (p := ⟨_, _, none⟩) (by simp <;> omega)).trans (by simp [go_sem])
      have r3w1 : w1.cell? ⟨w.heap.size + 1 + 1, 3, none⟩ = some (.int .u64 0) := (hb.cell (p := ⟨_, _, none⟩) (by simp <;> omega)).trans (by simp [go_sem])
      have r4w1 : w1.cell? ⟨w.heap.size + 1 + 1, 4, none⟩ = some (.int .u64 0) := (hb.cell (p := ⟨_, _, none⟩) (by simp <;> omega)).trans (by simp [go_sem])
      have fr0w1 : w1.frozen? ⟨w.heap.size + 1 + 1, 0, none⟩ = false := (hb.frozen (p := ⟨_, _, none⟩) (by simp <;> omega)).trans (by simp [go_sem])
      have fr1w1 : w1.frozen? ⟨w.heap.size + 1 + 1, 1, none⟩ = false := (hb.frozen (p := ⟨_, _, none⟩) (by simp <;> omega)).trans (by simp [go_sem])
      have fr2w1 : w1.frozen? ⟨w.heap.size + 1 + 1, 2, none⟩ = false := (hb.frozen (p := ⟨_, _, none⟩) (by simp <;> omega)).trans (by simp [go_sem])
      have fr3w1 : w1.frozen? ⟨w.heap.size + 1 + 1, 3, none⟩ = false := (hb.frozen (p := ⟨_, _, none⟩) (by simp <;> omega)).trans (by simp [go_sem])
      have fr4w1 : w1.frozen? ⟨w.heap.size + 1 + 1, 4, none⟩ = false := (hb.frozen (p := ⟨_, _, none⟩) (by simp <;> omega)).trans (by simp [go_sem])
      have hBw1 : Below w.heap.size w w1 := below_step (w := w) (by first | assumption | go_grown) hb
      have HDS := Lib.hid hd
      have HES := Lib.hid he
      clear hd he
      clear hb hsw1 hPw1
      obtain rfl : k = 0 := by
        have h1 := HES.out
        have h2 := valN_bd (by decide) HDS.out
        have h3 := HX.out.2.2
        have h4 := HY.out.2.2
        rw [pw4] at h1 h2
        omega
      clear hk
      have HM : Hid (dig 18446744073709551616 4 S ∧ valN 18446744073709551616 S 4 = x + y) := ⟨HDS.out, by have h1 := HES.out; have h3 := HX.out.2.2; have h4 := HY.out.2.2; simp only [Int.zero_mul, Int.add_zero] at h1; omega⟩
      have HSG : Hid (sgB false (valN 18446744073709551616 S 4) = SG) := by
        show _ = _
        rw [sgB_F, HM.out.2]
        exact HSG0.out
      go_wp2_with fail
      (go_at_call 52; refine (signed_any false _ S _ HM.out.1 rfl).mono ?_; rintro e_ w2 ⟨rfl, hb⟩)
      rw [HSG.out]
      have hsw2 := hb.size
      (try simp only [World.size_alloc, World.size_setCell] at hsw2)
      have zzw2 : w.heap.size < w2.heap.size := by omega
      have hPw2 : Below w1.heap.size w1 w2 := below_step (w := w1) (by first | exact Below.refl _ _ | go_grown) hb
      have zaw2 : w.heap.size < w2.heap.size := by omega
      have a0w2 : w2.cell? ⟨w.heap.size, 0, none⟩ = some (.bool false) := (hPw2.cell (p := ⟨_, _, none⟩) zaw1).trans a0w1
      have a1w2 : w2.cell? ⟨w.heap.size, 1, none⟩ = some (.int .u64 (X 0)) := (hPw2.cell (p := ⟨_, _, none⟩) zaw1).trans a1w1
      have a2w2 : w2.cell? ⟨w.heap.size, 2, none⟩ = some (.int .u64 (X 1)) := (hPw2.cell (p := ⟨_, _, none⟩) zaw1).trans a2w1
      have a3w2 : w2.cell? ⟨w.heap.size, 3, none⟩ = some (.int .u64 (X 2)) := (hPw2.cell (p := ⟨_, _, none⟩) zaw1).trans a3w1
      have a4w2 : w2.cell? ⟨w.heap.size, 4, none⟩ = some (.int .u64 (X 3)) := (hPw2.cell (p := ⟨_, _, none⟩) zaw1).trans a4w1
      have zbw2 : w.heap.size + 1 < w2.heap.size := by omega
      have b0w2 : w2.cell? ⟨w.heap.size + 1, 0, none⟩ = some (.bool false) := (hPw2.cell (p := ⟨_, _, none⟩) zbw1).trans b0w1
      have b1w2 : w2.cell? ⟨w.heap.size + 1, 1, none⟩ = some (.int .u64 (Y 0)) := (hPw2.cell (p := ⟨_, _, none⟩) zbw1).trans b1w1
      have b2w2 : w2.cell? ⟨w.heap.size + 1, 2, none⟩ = some (.int .u64 (Y 1)) := (hPw2.cell (p := ⟨_, _, none⟩) zbw1).trans b2w1
      have b3w2 : w2.cell? ⟨w.heap.size + 1, 3, none⟩ = some (.int .u64 (Y 2)) := (hPw2.cell (p := ⟨_, _, none⟩) zbw1).trans b3w1
      have b4w2 : w2.cell? ⟨w.heap.size + 1, 4, none⟩ = some (.int .u64 (Y 3)) := (hPw2.cell (p := ⟨_, _, none⟩) zbw1).trans b4w1
      have zrw2 : w.heap.size + 1 + 1 < w2.heap.size := by omega
      have r0w2 : w2.cell? ⟨w.heap.size + 1 + 1, 0, none⟩ = some (.bool false) := (hPw2.cell (p := ⟨_, _, none⟩) zrw1).trans r0w1
      have r1w2 : w2.cell? ⟨w.heap.size + 1 + 1, 1, none⟩ = some (.int .u64 0) := (hPw2.cell (p := ⟨_, _, none⟩) zrw1).trans r1w1
      have r2w2 : w2.cell? ⟨w.heap.size + 1 + 1, 2, none⟩ = some (.int .u64 0) := (hPw2.cell (p := ⟨_, _, none⟩) zrw1).trans r2w1
      have r3w2 : w2.cell? ⟨w.heap.size + 1 + 1, 3, none⟩ = some (.int .u64 0) := (hPw2.cell (p := ⟨_, _, none⟩) zrw1).trans r3w1
      have r4w2 : w2.cell? ⟨w.heap.size + 1 + 1, 4, none⟩ = some (.int .u64 0) := (hPw2.cell (p := ⟨_, _, none⟩) zrw1).trans r4w1
      have fr0w2 : w2.frozen? ⟨w.heap.size + 1 + 1, 0, none⟩ = false := (hPw2.frozen (p := ⟨_, _, none⟩) zrw1).trans fr0w1
      have fr1w2 : w2.frozen? ⟨w.heap.size + 1 + 1, 1, none⟩ = false := (hPw2.frozen (p := ⟨_, _, none⟩) zrw1).trans fr1w1
      have fr2w2 : w2.frozen? ⟨w.heap.size + 1 + 1, 2, none⟩ = false := (hPw2.frozen (p := ⟨_, _, none⟩) zrw1).trans fr2w1
      have fr3w2 : w2.frozen? ⟨w.heap.size + 1 + 1, 3, none⟩ = false := (hPw2.frozen (p := ⟨_, _, none⟩) zrw1).trans fr3w1
      have fr4w2 : w2.frozen? ⟨w.heap.size + 1 + 1, 4, none⟩ = false := (hPw2.frozen (p := ⟨_, _, none⟩) zrw1).trans fr4w1
      have zdw2 : w1.heap.size < w2.heap.size := by omega
      have d0w2 : w2.cell? ⟨w1.heap.size, 0, none⟩ = some (.int .u64 (S 0)) := (hb.cell (p := ⟨_, _, none⟩) (by simp <;> omega)).trans (by simp [go_sem])
      have d1w2 : w2.cell? ⟨w1.heap.size, 1, none⟩ = some (.int .u64 (S 1)) := (hb.cell (p := ⟨_, _, none⟩) (by simp <;> omega)).trans (by simp [go_sem])
      have d2w2 : w2.cell? ⟨w1.heap.size, 2, none⟩ = some (.int .u64 (S 2)) := (hb.cell (p := ⟨_, _, none⟩) (by simp <;> omega)).trans (by simp [go_sem])
      have d3w2 : w2.cell? ⟨w1.heap.size, 3, none⟩ = some (.int .u64 (S 3)) := (hb.cell (p := ⟨_, _, none⟩) (by simp <;> omega)).trans (by simp [go_sem])
      have hBw2 : Below w.heap.size w w2 := below_step (w := w) (by first | assumption | go_grown) hb
      clear hb hsw2 hPw2
      clear zaw1 zbw1 zrw1 a0w1 a1w1 a2w1 a3w1 a4w1 b0w1 b1w1 b2w1 b3w1 b4w1 r0w1 r1w1 r2w1 r3w1 r4w1 fr0w1 fr1w1 fr2w1 fr3w1 fr4w1
      go_wp2
      all_goals (refine bodyPost_ret (v := .tuple #[.agg #[.bool SG, .int .u64 (S 0), .int .u64 (S 1), .int .u64 (S 2), .int .u64 (S 3)], .int .i64 0]) (by simp (maxDischargeDepth := 9) [results, Try.results51, go_sem, *]) rfl ?_)
      refine ⟨S, rfl, ?_, by go_grown⟩
      have h := isW_sgF HM.out.1 rfl
      rw [HSG.out, HM.out.2] at h
      exact h
end Go.Proofs.Ytpjdmjmgkdgfnaa
