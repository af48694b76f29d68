/-
  The chapter's own numbers. Conditions: none. By an AI agent.
-/
import Derived.Test.YtpjdmjmgkdgfnaaMeshTP
namespace Go.Proofs.Ytpjdmjmgkdgfnaa
open Go Go.RowKit
set_option linter.unusedVariables false
set_option linter.unusedSimpArgs false
set_option maxRecDepth 100000

theorem neq_vec (a b c x y z : Int) (W : World) : (binOp .neq 40 (.agg #[.int .i64 a, .int .i64 b, .int .i64 c]) (.agg #[.int .i64 x, .int .i64 y, .int .i64 z])).run Try.prog W = .ok (.bool (!decide ((a, b, c) = (x, y, z)))) W := by
  simp only [binOp]
  simp [go_sem, Op.equal, Op.maxDepth]
  split
  · split
    · split <;> simp [*]
    · simp [*]
  · simp [*]
theorem equal_i3 (a b c x y z : Int) (w : World) : (Op.equalIn 10000 56 (.agg #[.int .i64 a, .int .i64 b, .int .i64 c]) (.agg #[.int .i64 x, .int .i64 y, .int .i64 z])).run Try.prog w = .ok (a == x && (b == y && c == z)) w := by
  rw [show (10000 : Nat) = 9999 + 1 from rfl, Op.equalIn]
  simp only [Sem.run_bind, run_underlying Try.underlying56, Result.andThen_ok]
  simp only [Std.Legacy.Range.forIn_eq_forIn_range', Std.Legacy.Range.size, Nat.sub_zero, Nat.add_sub_cancel, Nat.div_one, List.range'_succ, List.range'_zero, List.forIn_cons, List.forIn_nil]
  go_simp
  by_cases h0 : a = x <;> by_cases h1 : b = y <;> by_cases h2 : c = z <;> simp [h0, h1, h2]
theorem neq_i3 (a b c : Int) (w : World) : (binOp .neq 56 (.agg #[.int .i64 a, .int .i64 b, .int .i64 c]) (.agg #[.int .i64 a, .int .i64 b, .int .i64 c])).run Try.prog w = .ok (.bool false) w := by
  rw [run_neq_struct, equal_i3]
  simp
theorem eqW (W : World) : (binOp .eql 33 (.agg #[.bool false, .int .u64 1, .int .u64 0, .int .u64 0, .int .u64 0]) (.agg #[.bool false, .int .u64 1, .int .u64 0, .int .u64 0, .int .u64 0])).run Try.prog W = .ok (.bool true) W := by kernel_rfl
theorem eqW3 (W : World) : (binOp .eql 36 (.agg #[.bool false, .int .u64 1, .int .u64 0, .int .u64 0, .int .u64 0, .bool false, .int .u64 1, .int .u64 0, .int .u64 0, .int .u64 0, .bool false, .int .u64 1, .int .u64 0, .int .u64 0, .int .u64 0]) (.agg #[.bool false, .int .u64 1, .int .u64 0, .int .u64 0, .int .u64 0, .bool false, .int .u64 1, .int .u64 0, .int .u64 0, .int .u64 0, .bool false, .int .u64 1, .int .u64 0, .int .u64 0, .int .u64 0])).run Try.prog W = .ok (.bool true) W := by kernel_rfl
theorem eqB (W : World) : (binOp .eql 46 (.agg #[.int .i64 5, .int .i64 0, .int .i64 0, .int .i64 6, .int .i64 1, .int .i64 1]) (.agg #[.int .i64 5, .int .i64 0, .int .i64 0, .int .i64 6, .int .i64 1, .int .i64 1])).run Try.prog W = .ok (.bool true) W := by kernel_rfl
theorem ck4 : checkM 4 cP 4 cF = 0 := by decide
theorem ck3 : checkM 4 cP 3 cF = 17 := by decide
theorem vl4 : vol6 4 cP 4 cF = 1 := by decide
theorem ml4 : ∀ c, c < 3 → mom24 4 cP 4 cF c = 1 := by decide
theorem me4 : moveE 4 cP 4 cF 5 0 0 0 = 0 := by decide
theorem bd4 : ∀ c, c < 6 → bndF 4 (moveP 5 0 0 0 cP) 4 cF c = [5, 0, 0, 6, 1, 1].getD c 0 := by decide
theorem ckd : checkM 4 (moveP 5 0 0 0 cP) 4 cF = 0 := by decide
theorem wd1 : w5 1 = [.bool false, .int .u64 1, .int .u64 0, .int .u64 0, .int .u64 0] := by
  have h : wdF 1 0 = 1 ∧ wdF 1 1 = 0 ∧ wdF 1 2 = 0 ∧ wdF 1 3 = 0 := by decide
  simp [w5, h.1, h.2.1, h.2.2.1, h.2.2.2]
theorem wd1v : (.agg #[.bool (decide ((1 : Int) < 0)), .int .u64 ((wdF ((1 : Int))) 0), .int .u64 ((wdF ((1 : Int))) 1), .int .u64 ((wdF ((1 : Int))) 2), .int .u64 ((wdF ((1 : Int))) 3)] : Value) = .agg #[.bool false, .int .u64 1, .int .u64 0, .int .u64 0, .int .u64 0] := by
  have h := congrArg (fun l => Value.agg (List.toArray l)) wd1
  exact h
theorem lC1 {f : Nat → Int} (h : ∀ c, c < 3 → f c = 1) : (.agg (lC f 3) : Value) = .agg #[.bool false, .int .u64 1, .int .u64 0, .int .u64 0, .int .u64 0, .bool false, .int .u64 1, .int .u64 0, .int .u64 0, .int .u64 0, .bool false, .int .u64 1, .int .u64 0, .int .u64 0, .int .u64 0] := by
  rw [lC_ext (g := fun _ => 1) h]
  simp [lC, zF, wd1]
theorem RowAt.take {w : World} {oa : Option Addr} {n c : Nat} {F : Nat → V} (h : RowAt w (.slice oa n c) n F) {k : Nat} (hk : k ≤ n) : RowAt w (.slice oa k c) k F := by
  obtain ⟨oa', cap, he, h2, h3, h4⟩ := h
  cases he
  refine ⟨oa, c, rfl, by omega, h3, fun h0 => ?_⟩
  obtain ⟨b, off, e, hlt, hc⟩ := h4 (by omega)
  exact ⟨b, off, e, hlt, fun i j hi hj => hc i j (by omega) hj⟩
theorem vol_corner (v : Value) (w : World) (h : MAt w v 4 cP 4 cF) : Calls Try.prog 15 #[v] w fun e w' => e = .returned (.tuple #[.agg #[.bool false, .int .u64 1, .int .u64 0, .int .u64 0, .int .u64 0], .int .i64 0]) ∧ Below w.heap.size w w' := by
  have h := Volume6_any v 4 4 cP cF w h
  rw [vl4, ck4, wd1v] at h
  exact h
theorem mom_corner (v : Value) (w : World) (h : MAt w v 4 cP 4 cF) : Calls Try.prog 17 #[v] w fun e w' => e = .returned (.tuple #[.agg #[.bool false, .int .u64 1, .int .u64 0, .int .u64 0, .int .u64 0, .bool false, .int .u64 1, .int .u64 0, .int .u64 0, .int .u64 0, .bool false, .int .u64 1, .int .u64 0, .int .u64 0, .int .u64 0], .int .i64 0]) ∧ Below w.heap.size w w' := by
  have h := Moment24_any v 4 4 cP cF w h
  rw [ck4, lC1 ml4] at h
  exact h
theorem move_corner (v : Value) (w : World) (h : MAt w v 4 cP 4 cF) : Calls Try.prog 19 #[v, .agg #[.int .i64 5, .int .i64 0, .int .i64 0, .int .i64 0]] w fun e w' => ∃ v', e = .returned (.tuple #[v', .int .i64 0]) ∧ MAt w' v' 4 (moveP 5 0 0 0 cP) 4 cF ∧ Below w.heap.size w w' := by
  have h := Move_any v 4 4 cP cF 5 0 0 0 w h
  rw [me4] at h
  exact h
theorem bnd_corner (v : Value) (w : World) (h : MAt w v 4 (moveP 5 0 0 0 cP) 4 cF) : Calls Try.prog 21 #[v] w fun e w' => e = .returned (.tuple #[.agg #[.int .i64 5, .int .i64 0, .int .i64 0, .int .i64 6, .int .i64 1, .int .i64 1], .int .i64 0]) ∧ Below w.heap.size w w' := by
  have h := Bounds_any v 4 4 (moveP 5 0 0 0 cP) cF w h
  rw [ckd, bd4 0 (by decide), bd4 1 (by decide), bd4 2 (by decide), bd4 3 (by decide), bd4 4 (by decide), bd4 5 (by decide)] at h
  exact h
theorem chk_open (v : Value) (w : World) (h : MAt w v 4 cP 3 cF) : Calls Try.prog 13 #[v] w fun e w' => e = .returned (.int .i64 17) ∧ Below w.heap.size w w' := by
  have h := Check_any v 4 3 cP cF w h
  rw [ck3] at h
  exact h
theorem of_one (w : World) : Calls Try.prog 26 #[.int .i64 1] w fun e w' => e = .returned (.agg #[.bool false, .int .u64 1, .int .u64 0, .int .u64 0, .int .u64 0]) ∧ Below w.heap.size w w' :=
  (Of_any 1 w (by decide)).mono (by
    rintro e w' ⟨X, rfl, hX, hb⟩
    obtain ⟨-, e0, e1, e2, e3⟩ := isW_one hX (wdF_is (isW_lt hX))
    rw [e0, e1, e2, e3]
    exact ⟨congrArg Ending.returned wd1v, hb⟩)

set_option maxHeartbeats 4000000 in
theorem awake_any (w : World) : Calls Try.prog 12 #[] w fun e w' => e = .returned (.bool true) ∧ Below w.heap.size w w' := by
  have q1 := eqW
  have q2 := eqW3
  have q3 := eqB
  go_enter Try.func12, Try.ntmps12
  go_wp2_with fail
  (go_at_call 29; refine (corner_any _).mono ?_; rintro e_ w1 ⟨v1, rfl, hm1, hb⟩)
  have hsw1 := hb.size
  (try simp only [World.size_alloc, World.size_setCell] at hsw1)
  have zzw1 : w.heap.size ≤ w1.heap.size := by omega
  have hPw1 : Below w.heap.size w w1 := below_step (w := w) (by first | exact Below.refl _ _ | go_grown) hb
  have hBw1 : Below w.heap.size w w1 := below_step (w := w) (by first | assumption | go_grown) hb
  have HM1 := Lib.hid hm1
  obtain ⟨vp1, vf1, hv1, g1, g2⟩ := hm1
  obtain ⟨op, cp, rfl, -, -, -⟩ := g1.form
  obtain ⟨of', cf, rfl, hcf4, hcf, hel⟩ := g2.form
  obtain ⟨b1, f1, rfl, -, -⟩ := hel 0 (by decide)
  subst hv1
  have HM3 : Hid (MAt w1 (.agg #[.slice op 4 cp, .slice (some ⟨b1, f1, none⟩) 3 cf]) 4 cP 3 cF) := ⟨_, _, rfl, g1, g2.take (by decide)⟩
  clear g1 g2 hel
  have hBB1 : Below w.heap.size w w1 := hPw1
  clear hb hsw1 hPw1
  go_wp2_with fail
  (go_at_call 15; refine (vol_corner _ _ (HM1.out.below (by first | assumption | go_grown))).mono ?_; rintro e_ w2 ⟨rfl, hb⟩)
  have hsw2 := hb.size
  (try simp only [World.size_alloc, World.size_setCell] at hsw2)
  have zzw2 : w.heap.size ≤ w2.heap.size := by omega
  have hPw2 : Below w1.heap.size w1 w2 := below_step (w := w1) (by first | exact Below.refl _ _ | go_grown) hb
  have zmw2 : w1.heap.size < w2.heap.size := by omega
  have m0w2 : w2.cell? ⟨w1.heap.size, 0, none⟩ = some (.slice op 4 cp) := (hb.cell (p := ⟨_, _, none⟩) (by simp <;> omega)).trans (by simp [go_sem])
  have m1w2 : w2.cell? ⟨w1.heap.size, 1, none⟩ = some (.slice (some ⟨b1, f1, none⟩) 4 cf) := (hb.cell (p := ⟨_, _, none⟩) (by simp <;> omega)).trans (by simp [go_sem])
  have fm0w2 : w2.frozen? ⟨w1.heap.size, 0, none⟩ = false := (hb.frozen (p := ⟨_, _, none⟩) (by simp <;> omega)).trans (by simp [go_sem])
  have fm1w2 : w2.frozen? ⟨w1.heap.size, 1, none⟩ = false := (hb.frozen (p := ⟨_, _, none⟩) (by simp <;> omega)).trans (by simp [go_sem])
  have hd12 : w1.heap.size < w2.heap.size := by omega
  have hBw2 : Below w.heap.size w w2 := below_step (w := w) (by first | assumption | go_grown) hb
  have hq2 : Below w1.heap.size w1 w2 := hPw2
  clear hb hsw2 hPw2
  go_wp2_with fail
  (go_at_call 17; refine (mom_corner _ _ (HM1.out.below (by first | assumption | go_grown))).mono ?_; rintro e_ w3 ⟨rfl, hb⟩)
  have hsw3 := hb.size
  (try simp only [World.size_alloc, World.size_setCell] at hsw3)
  have zzw3 : w.heap.size ≤ w3.heap.size := by omega
  have hPw3 : Below w2.heap.size w2 w3 := below_step (w := w2) (by first | exact Below.refl _ _ | go_grown) hb
  have zmw3 : w1.heap.size < w3.heap.size := by omega
  have m0w3 : w3.cell? ⟨w1.heap.size, 0, none⟩ = some (.slice op 4 cp) := (hPw3.cell (p := ⟨_, _, none⟩) zmw2).trans m0w2
  have m1w3 : w3.cell? ⟨w1.heap.size, 1, none⟩ = some (.slice (some ⟨b1, f1, none⟩) 4 cf) := (hPw3.cell (p := ⟨_, _, none⟩) zmw2).trans m1w2
  have fm0w3 : w3.frozen? ⟨w1.heap.size, 0, none⟩ = false := (hPw3.frozen (p := ⟨_, _, none⟩) zmw2).trans fm0w2
  have fm1w3 : w3.frozen? ⟨w1.heap.size, 1, none⟩ = false := (hPw3.frozen (p := ⟨_, _, none⟩) zmw2).trans fm1w2
  have zvw3 : w2.heap.size < w3.heap.size := by omega
  have v0w3 : w3.cell? ⟨w2.heap.size, 0, none⟩ = some (.bool false) := (hb.cell (p := ⟨_, _, none⟩) (by simp <;> omega)).trans (by simp [go_sem])
  have v1w3 : w3.cell? ⟨w2.heap.size, 1, none⟩ = some (.int .u64 1) := (hb.cell (p := ⟨_, _, none⟩) (by simp <;> omega)).trans (by simp [go_sem])
  have v2w3 : w3.cell? ⟨w2.heap.size, 2, none⟩ = some (.int .u64 0) := (hb.cell (p := ⟨_, _, none⟩) (by simp <;> omega)).trans (by simp [go_sem])
  have v3w3 : w3.cell? ⟨w2.heap.size, 3, none⟩ = some (.int .u64 0) := (hb.cell (p := ⟨_, _, none⟩) (by simp <;> omega)).trans (by simp [go_sem])
  have v4w3 : w3.cell? ⟨w2.heap.size, 4, none⟩ = some (.int .u64 0) := (hb.cell (p := ⟨_, _, none⟩) (by simp <;> omega)).trans (by simp [go_sem])
  have hd23 : w2.heap.size < w3.heap.size := by omega
  have hBw3 : Below w.heap.size w w3 := below_step (w := w) (by first | assumption | go_grown) hb
  have hq3 : Below w1.heap.size w1 w3 := below_step hq2 hPw3
  clear hq2
  clear hb hsw3 hPw3
  clear zmw2 m0w2 m1w2 fm0w2 fm1w2
  go_wp2_with fail
  (go_at_call 19; refine (move_corner _ _ (HM1.out.below (by first | assumption | go_grown))).mono ?_; rintro e_ w4 ⟨v4, rfl, hm4, hb⟩)
  have hsw4 := hb.size
  (try simp only [World.size_alloc, World.size_setCell] at hsw4)
  have zzw4 : w.heap.size ≤ w4.heap.size := by omega
  have hPw4 : Below w3.heap.size w3 w4 := below_step (w := w3) (by first | exact Below.refl _ _ | go_grown) hb
  have zmw4 : w1.heap.size < w4.heap.size := by omega
  have m0w4 : w4.cell? ⟨w1.heap.size, 0, none⟩ = some (.slice op 4 cp) := (hPw4.cell (p := ⟨_, _, none⟩) zmw3).trans m0w3
  have m1w4 : w4.cell? ⟨w1.heap.size, 1, none⟩ = some (.slice (some ⟨b1, f1, none⟩) 4 cf) := (hPw4.cell (p := ⟨_, _, none⟩) zmw3).trans m1w3
  have fm0w4 : w4.frozen? ⟨w1.heap.size, 0, none⟩ = false := (hPw4.frozen (p := ⟨_, _, none⟩) zmw3).trans fm0w3
  have fm1w4 : w4.frozen? ⟨w1.heap.size, 1, none⟩ = false := (hPw4.frozen (p := ⟨_, _, none⟩) zmw3).trans fm1w3
  have zvw4 : w2.heap.size < w4.heap.size := by omega
  have v0w4 : w4.cell? ⟨w2.heap.size, 0, none⟩ = some (.bool false) := (hPw4.cell (p := ⟨_, _, none⟩) zvw3).trans v0w3
  have v1w4 : w4.cell? ⟨w2.heap.size, 1, none⟩ = some (.int .u64 1) := (hPw4.cell (p := ⟨_, _, none⟩) zvw3).trans v1w3
  have v2w4 : w4.cell? ⟨w2.heap.size, 2, none⟩ = some (.int .u64 0) := (hPw4.cell (p := ⟨_, _, none⟩) zvw3).trans v2w3
  have v3w4 : w4.cell? ⟨w2.heap.size, 3, none⟩ = some (.int .u64 0) := (hPw4.cell (p := ⟨_, _, none⟩) zvw3).trans v3w3
  have v4w4 : w4.cell? ⟨w2.heap.size, 4, none⟩ = some (.int .u64 0) := (hPw4.cell (p := ⟨_, _, none⟩) zvw3).trans v4w3
  have zlw4 : w3.heap.size < w4.heap.size := by omega
  have l0w4 : w4.cell? ⟨w3.heap.size, 0, none⟩ = some (.bool false) := (hb.cell (p := ⟨_, _, none⟩) (by simp <;> omega)).trans (by simp [go_sem])
  have l1w4 : w4.cell? ⟨w3.heap.size, 1, none⟩ = some (.int .u64 1) := (hb.cell (p := ⟨_, _, none⟩) (by simp <;> omega)).trans (by simp [go_sem])
  have l2w4 : w4.cell? ⟨w3.heap.size, 2, none⟩ = some (.int .u64 0) := (hb.cell (p := ⟨_, _, none⟩) (by simp <;> omega)).trans (by simp [go_sem])
  have l3w4 : w4.cell? ⟨w3.heap.size, 3, none⟩ = some (.int .u64 0) := (hb.cell (p := ⟨_, _, none⟩) (by simp <;> omega)).trans (by simp [go_sem])
  have l4w4 : w4.cell? ⟨w3.heap.size, 4, none⟩ = some (.int .u64 0) := (hb.cell (p := ⟨_, _, none⟩) (by simp <;> omega)).trans (by simp [go_sem])
  have l5w4 : w4.cell? ⟨w3.heap.size, 5, none⟩ = some (.bool false) := (hb.cell (p := ⟨_, _, none⟩) (by simp <;> omega)).trans (by simp [go_sem])
  have l6w4 : w4.cell? ⟨w3.heap.size, 6, none⟩ = some (.int .u64 1) := (hb.cell (p := ⟨_, _, none⟩) (by simp <;> omega)).trans (by simp [go_sem])
  have l7w4 : w4.cell? ⟨w3.heap.size, 7, none⟩ = some (.int .u64 0) := (hb.cell (p := ⟨_, _, none⟩) (by simp <;> omega)).trans (by simp [go_sem])
  have l8w4 : w4.cell? ⟨w3.heap.size, 8, none⟩ = some (.int .u64 0) := (hb.cell (p := ⟨_, _, none⟩) (by simp <;> omega)).trans (by simp [go_sem])
  have l9w4 : w4.cell? ⟨w3.heap.size, 9, none⟩ = some (.int .u64 0) := (hb.cell (p := ⟨_, _, none⟩) (by simp <;> omega)).trans (by simp [go_sem])
  have l10w4 : w4.cell? ⟨w3.heap.size, 10, none⟩ = some (.bool false) := (hb.cell (p := ⟨_, _, none⟩) (by simp <;> omega)).trans (by simp [go_sem])
  have l11w4 : w4.cell? ⟨w3.heap.size, 11, none⟩ = some (.int .u64 1) := (hb.cell (p := ⟨_, _, none⟩) (by simp <;> omega)).trans (by simp [go_sem])
  have l12w4 : w4.cell? ⟨w3.heap.size, 12, none⟩ = some (.int .u64 0) := (hb.cell (p := ⟨_, _, none⟩) (by simp <;> omega)).trans (by simp [go_sem])
  have l13w4 : w4.cell? ⟨w3.heap.size, 13, none⟩ = some (.int .u64 0) := (hb.cell (p := ⟨_, _, none⟩) (by simp <;> omega)).trans (by simp [go_sem])
  have l14w4 : w4.cell? ⟨w3.heap.size, 14, none⟩ = some (.int .u64 0) := (hb.cell (p := ⟨_, _, none⟩) (by simp <;> omega)).trans (by simp [go_sem])
  have hd34 : w3.heap.size < w4.heap.size := by omega
  have hBw4 : Below w.heap.size w w4 := below_step (w := w) (by first | assumption | go_grown) hb
  have hq4 : Below w1.heap.size w1 w4 := below_step hq3 hPw4
  clear hq3
  have HM4 := Lib.hid hm4
  obtain ⟨op4, cp4, of4, cf4, rfl⟩ := hm4.slices
  clear hm4
  clear hb hsw4 hPw4
  clear zmw3 zvw3 m0w3 m1w3 v0w3 v1w3 v2w3 v3w3 v4w3 fm0w3 fm1w3
  go_wp2_with fail
  (go_at_call 21; refine (bnd_corner _ _ (HM4.out.below (by first | assumption | go_grown))).mono ?_; rintro e_ w5 ⟨rfl, hb⟩)
  have hsw5 := hb.size
  (try simp only [World.size_alloc, World.size_setCell] at hsw5)
  have zzw5 : w.heap.size ≤ w5.heap.size := by omega
  have hPw5 : Below w4.heap.size w4 w5 := below_step (w := w4) (by first | exact Below.refl _ _ | go_grown) hb
  have zmw5 : w1.heap.size < w5.heap.size := by omega
  have m0w5 : w5.cell? ⟨w1.heap.size, 0, none⟩ = some (.slice op 4 cp) := (hPw5.cell (p := ⟨_, _, none⟩) zmw4).trans m0w4
  have m1w5 : w5.cell? ⟨w1.heap.size, 1, none⟩ = some (.slice (some ⟨b1, f1, none⟩) 4 cf) := (hPw5.cell (p := ⟨_, _, none⟩) zmw4).trans m1w4
  have fm0w5 : w5.frozen? ⟨w1.heap.size, 0, none⟩ = false := (hPw5.frozen (p := ⟨_, _, none⟩) zmw4).trans fm0w4
  have fm1w5 : w5.frozen? ⟨w1.heap.size, 1, none⟩ = false := (hPw5.frozen (p := ⟨_, _, none⟩) zmw4).trans fm1w4
  have zvw5 : w2.heap.size < w5.heap.size := by omega
  have v0w5 : w5.cell? ⟨w2.heap.size, 0, none⟩ = some (.bool false) := (hPw5.cell (p := ⟨_, _, none⟩) zvw4).trans v0w4
  have v1w5 : w5.cell? ⟨w2.heap.size, 1, none⟩ = some (.int .u64 1) := (hPw5.cell (p := ⟨_, _, none⟩) zvw4).trans v1w4
  have v2w5 : w5.cell? ⟨w2.heap.size, 2, none⟩ = some (.int .u64 0) := (hPw5.cell (p := ⟨_, _, none⟩) zvw4).trans v2w4
  have v3w5 : w5.cell? ⟨w2.heap.size, 3, none⟩ = some (.int .u64 0) := (hPw5.cell (p := ⟨_, _, none⟩) zvw4).trans v3w4
  have v4w5 : w5.cell? ⟨w2.heap.size, 4, none⟩ = some (.int .u64 0) := (hPw5.cell (p := ⟨_, _, none⟩) zvw4).trans v4w4
  have zlw5 : w3.heap.size < w5.heap.size := by omega
  have l0w5 : w5.cell? ⟨w3.heap.size, 0, none⟩ = some (.bool false) := (hPw5.cell (p := ⟨_, _, none⟩) zlw4).trans l0w4
  have l1w5 : w5.cell? ⟨w3.heap.size, 1, none⟩ = some (.int .u64 1) := (hPw5.cell (p := ⟨_, _, none⟩) zlw4).trans l1w4
  have l2w5 : w5.cell? ⟨w3.heap.size, 2, none⟩ = some (.int .u64 0) := (hPw5.cell (p := ⟨_, _, none⟩) zlw4).trans l2w4
  have l3w5 : w5.cell? ⟨w3.heap.size, 3, none⟩ = some (.int .u64 0) := (hPw5.cell (p := ⟨_, _, none⟩) zlw4).trans l3w4
  have l4w5 : w5.cell? ⟨w3.heap.size, 4, none⟩ = some (.int .u64 0) := (hPw5.cell (p := ⟨_, _, none⟩) zlw4).trans l4w4
  have l5w5 : w5.cell? ⟨w3.heap.size, 5, none⟩ = some (.bool false) := (hPw5.cell (p := ⟨_, _, none⟩) zlw4).trans l5w4
  have l6w5 : w5.cell? ⟨w3.heap.size, 6, none⟩ = some (.int .u64 1) := (hPw5.cell (p := ⟨_, _, none⟩) zlw4).trans l6w4
  have l7w5 : w5.cell? ⟨w3.heap.size, 7, none⟩ = some (.int .u64 0) := (hPw5.cell (p := ⟨_, _, none⟩) zlw4).trans l7w4
  have l8w5 : w5.cell? ⟨w3.heap.size, 8, none⟩ = some (.int .u64 0) := (hPw5.cell (p := ⟨_, _, none⟩) zlw4).trans l8w4
  have l9w5 : w5.cell? ⟨w3.heap.size, 9, none⟩ = some (.int .u64 0) := (hPw5.cell (p := ⟨_, _, none⟩) zlw4).trans l9w4
  have l10w5 : w5.cell? ⟨w3.heap.size, 10, none⟩ = some (.bool false) := (hPw5.cell (p := ⟨_, _, none⟩) zlw4).trans l10w4
  have l11w5 : w5.cell? ⟨w3.heap.size, 11, none⟩ = some (.int .u64 1) := (hPw5.cell (p := ⟨_, _, none⟩) zlw4).trans l11w4
  have l12w5 : w5.cell? ⟨w3.heap.size, 12, none⟩ = some (.int .u64 0) := (hPw5.cell (p := ⟨_, _, none⟩) zlw4).trans l12w4
  have l13w5 : w5.cell? ⟨w3.heap.size, 13, none⟩ = some (.int .u64 0) := (hPw5.cell (p := ⟨_, _, none⟩) zlw4).trans l13w4
  have l14w5 : w5.cell? ⟨w3.heap.size, 14, none⟩ = some (.int .u64 0) := (hPw5.cell (p := ⟨_, _, none⟩) zlw4).trans l14w4
  have ztw5 : w4.heap.size < w5.heap.size := by omega
  have t0w5 : w5.cell? ⟨w4.heap.size, 0, none⟩ = some (.slice op4 4 cp4) := (hb.cell (p := ⟨_, _, none⟩) (by simp <;> omega)).trans (by simp [go_sem])
  have t1w5 : w5.cell? ⟨w4.heap.size, 1, none⟩ = some (.slice of4 4 cf4) := (hb.cell (p := ⟨_, _, none⟩) (by simp <;> omega)).trans (by simp [go_sem])
  have hd45 : w4.heap.size < w5.heap.size := by omega
  have hBw5 : Below w.heap.size w w5 := below_step (w := w) (by first | assumption | go_grown) hb
  have HQ5 : Hid (Below w1.heap.size w1 w5) := below_step hq4 hPw5
  clear hq4
  clear hb hsw5 hPw5
  clear zmw4 zvw4 zlw4 m0w4 m1w4 v0w4 v1w4 v2w4 v3w4 v4w4 l0w4 l1w4 l2w4 l3w4 l4w4 l5w4 l6w4 l7w4 l8w4 l9w4 l10w4 l11w4 l12w4 l13w4 l14w4 fm0w4 fm1w4
  clear ztw5 t0w5 t1w5
  have hcf0 : (3 : Int) ≤ cf := by omega
  have hd1 : w1.heap.size < w5.heap.size := by omega
  have hq5 := HQ5.out
  have hd2 : w2.heap.size ≠ w1.heap.size := by omega
  have hd3 : w3.heap.size ≠ w1.heap.size := by omega
  have hd5 : w5.heap.size ≠ w1.heap.size := by omega
  go_wp2_with fail
  refine wp_region_relw 45 (by kernel_rfl) (by kernel_rfl) (by kernel_rfl) ?_
  simp only [List.take_succ_cons, List.take_zero, fillL, Act.put, List.setIfInBounds_toArray, List.set_cons_zero, List.set_cons_succ]
  iterate 16
    apply rel_is
    · intro u wx hb hd
      have hz := hb.size
      (try simp only [World.size_alloc, World.size_setCell] at hz)
      have hz0 : w1.heap.size < wx.heap.size := by omega
      have hz1 : w2.heap.size < wx.heap.size := by omega
      have hz2 : w3.heap.size < wx.heap.size := by omega
      have hz3 : w5.heap.size < wx.heap.size := by omega
      obtain ⟨hc, hf⟩ := bcell hb
      have HBX := Lib.hid hb
      clear hb hz
      simp [depsS, Region.binds, updS, Stay.is, Stay.any] at hd
      go_simp
      first | exact ⟨Below.refl _ _, rfl⟩ | rfl
  apply rel_is
  · intro u wx hb hd
    have hz := hb.size
    (try simp only [World.size_alloc, World.size_setCell] at hz)
    have hz0 : w1.heap.size < wx.heap.size := by omega
    have hz1 : w2.heap.size < wx.heap.size := by omega
    have hz2 : w3.heap.size < wx.heap.size := by omega
    have hz3 : w5.heap.size < wx.heap.size := by omega
    obtain ⟨hc, hf⟩ := bcell hb
    have HBX := Lib.hid hb
    clear hb hz
    simp [depsS, Region.binds, updS, Stay.is, Stay.any] at hd
    go_simp
    first | rfl | (go_at_call 26; refine (of_one _).mono ?_; rintro e w1 ⟨rfl, hb1⟩; first | exact ⟨rfl, hb1⟩ | exact ⟨_, rfl, hb1, rfl⟩)
  iterate 10
    apply rel_is
    · intro u wx hb hd
      have hz := hb.size
      (try simp only [World.size_alloc, World.size_setCell] at hz)
      have hz0 : w1.heap.size < wx.heap.size := by omega
      have hz1 : w2.heap.size < wx.heap.size := by omega
      have hz2 : w3.heap.size < wx.heap.size := by omega
      have hz3 : w5.heap.size < wx.heap.size := by omega
      obtain ⟨hc, hf⟩ := bcell hb
      have HBX := Lib.hid hb
      clear hb hz
      simp [depsS, Region.binds, updS, Stay.is, Stay.any] at hd
      go_simp
      first | exact ⟨Below.refl _ _, rfl⟩ | rfl
  apply rel_is
  · intro u wx hb hd
    have hz := hb.size
    (try simp only [World.size_alloc, World.size_setCell] at hz)
    have hz0 : w1.heap.size < wx.heap.size := by omega
    have hz1 : w2.heap.size < wx.heap.size := by omega
    have hz2 : w3.heap.size < wx.heap.size := by omega
    have hz3 : w5.heap.size < wx.heap.size := by omega
    obtain ⟨hc, hf⟩ := bcell hb
    have HBX := Lib.hid hb
    clear hb hz
    simp [depsS, Region.binds, updS, Stay.is, Stay.any] at hd
    go_simp
    first | rfl | (go_at_call 26; refine (of_one _).mono ?_; rintro e w1 ⟨rfl, hb1⟩; first | exact ⟨rfl, hb1⟩ | exact ⟨_, rfl, hb1, rfl⟩)
  apply rel_is
  · intro u wx hb hd
    have hz := hb.size
    (try simp only [World.size_alloc, World.size_setCell] at hz)
    have hz0 : w1.heap.size < wx.heap.size := by omega
    have hz1 : w2.heap.size < wx.heap.size := by omega
    have hz2 : w3.heap.size < wx.heap.size := by omega
    have hz3 : w5.heap.size < wx.heap.size := by omega
    obtain ⟨hc, hf⟩ := bcell hb
    have HBX := Lib.hid hb
    clear hb hz
    simp [depsS, Region.binds, updS, Stay.is, Stay.any] at hd
    go_simp
    first | rfl | (go_at_call 26; refine (of_one _).mono ?_; rintro e w1 ⟨rfl, hb1⟩; first | exact ⟨rfl, hb1⟩ | exact ⟨_, rfl, hb1, rfl⟩)
  apply rel_is
  · intro u wx hb hd
    have hz := hb.size
    (try simp only [World.size_alloc, World.size_setCell] at hz)
    have hz0 : w1.heap.size < wx.heap.size := by omega
    have hz1 : w2.heap.size < wx.heap.size := by omega
    have hz2 : w3.heap.size < wx.heap.size := by omega
    have hz3 : w5.heap.size < wx.heap.size := by omega
    obtain ⟨hc, hf⟩ := bcell hb
    have HBX := Lib.hid hb
    clear hb hz
    simp [depsS, Region.binds, updS, Stay.is, Stay.any] at hd
    go_simp
    first | rfl | (go_at_call 26; refine (of_one _).mono ?_; rintro e w1 ⟨rfl, hb1⟩; first | exact ⟨rfl, hb1⟩ | exact ⟨_, rfl, hb1, rfl⟩)
  iterate 12
    apply rel_is
    · intro u wx hb hd
      have hz := hb.size
      (try simp only [World.size_alloc, World.size_setCell] at hz)
      have hz0 : w1.heap.size < wx.heap.size := by omega
      have hz1 : w2.heap.size < wx.heap.size := by omega
      have hz2 : w3.heap.size < wx.heap.size := by omega
      have hz3 : w5.heap.size < wx.heap.size := by omega
      obtain ⟨hc, hf⟩ := bcell hb
      have HBX := Lib.hid hb
      clear hb hz
      simp [depsS, Region.binds, updS, Stay.is, Stay.any] at hd
      go_simp
      first | exact ⟨Below.refl _ _, rfl⟩ | rfl
  apply rel_is
  · intro u wx hb hd
    have hz := hb.size
    (try simp only [World.size_alloc, World.size_setCell] at hz)
    have hz0 : w1.heap.size < wx.heap.size := by omega
    have hz1 : w2.heap.size < wx.heap.size := by omega
    have hz2 : w3.heap.size < wx.heap.size := by omega
    have hz3 : w5.heap.size < wx.heap.size := by omega
    obtain ⟨hc, hf⟩ := bcell hb
    have HBX := Lib.hid hb
    clear hb hz
    simp [depsS, Region.binds, updS, Stay.is, Stay.any] at hd
    go_simp
    first | rfl | (go_at_call 13; refine (chk_open _ _ (HM3.out.below (below_step (w := w1) (by have h := HQ5.out; go_grown) HBX.out))).mono ?_; rintro e w1 ⟨rfl, hb1⟩; first | exact ⟨rfl, hb1⟩ | exact ⟨_, rfl, hb1, rfl⟩)
  iterate 2
    apply rel_is
    · intro u wx hb hd
      have hz := hb.size
      (try simp only [World.size_alloc, World.size_setCell] at hz)
      have hz0 : w1.heap.size < wx.heap.size := by omega
      have hz1 : w2.heap.size < wx.heap.size := by omega
      have hz2 : w3.heap.size < wx.heap.size := by omega
      have hz3 : w5.heap.size < wx.heap.size := by omega
      obtain ⟨hc, hf⟩ := bcell hb
      have HBX := Lib.hid hb
      clear hb hz
      simp [depsS, Region.binds, updS, Stay.is, Stay.any] at hd
      go_simp
      first | exact ⟨Below.refl _ _, rfl⟩ | rfl
  intro u w7 hb hE
  have e0 : u 0 = _ := endS_get hE 0 (by decide)
  have e1 : u 1 = _ := endS_get hE 1 (by decide)
  have e2 : u 2 = _ := endS_get hE 2 (by decide)
  have e3 : u 3 = _ := endS_get hE 3 (by decide)
  have e4 : u 4 = _ := endS_get hE 4 (by decide)
  have e5 : u 5 = _ := endS_get hE 5 (by decide)
  have e6 : u 6 = _ := endS_get hE 6 (by decide)
  have e7 : u 7 = _ := endS_get hE 7 (by decide)
  have e8 : u 8 = _ := endS_get hE 8 (by decide)
  have e9 : u 9 = _ := endS_get hE 9 (by decide)
  have e10 : u 10 = _ := endS_get hE 10 (by decide)
  have e11 : u 11 = _ := endS_get hE 11 (by decide)
  have e12 : u 12 = _ := endS_get hE 12 (by decide)
  have e13 : u 13 = _ := endS_get hE 13 (by decide)
  have e14 : u 14 = _ := endS_get hE 14 (by decide)
  have e15 : u 15 = _ := endS_get hE 15 (by decide)
  have e16 : u 16 = _ := endS_get hE 16 (by decide)
  have e17 : u 17 = _ := endS_get hE 17 (by decide)
  have e18 : u 18 = _ := endS_get hE 18 (by decide)
  have e19 : u 19 = _ := endS_get hE 19 (by decide)
  have e20 : u 20 = _ := endS_get hE 20 (by decide)
  have e21 : u 21 = _ := endS_get hE 21 (by decide)
  have e22 : u 22 = _ := endS_get hE 22 (by decide)
  have e23 : u 23 = _ := endS_get hE 23 (by decide)
  have e24 : u 24 = _ := endS_get hE 24 (by decide)
  have e25 : u 25 = _ := endS_get hE 25 (by decide)
  have e26 : u 26 = _ := endS_get hE 26 (by decide)
  have e27 : u 27 = _ := endS_get hE 27 (by decide)
  have e28 : u 28 = _ := endS_get hE 28 (by decide)
  have e29 : u 29 = _ := endS_get hE 29 (by decide)
  have e30 : u 30 = _ := endS_get hE 30 (by decide)
  have e31 : u 31 = _ := endS_get hE 31 (by decide)
  have e32 : u 32 = _ := endS_get hE 32 (by decide)
  have e33 : u 33 = _ := endS_get hE 33 (by decide)
  have e34 : u 34 = _ := endS_get hE 34 (by decide)
  have e35 : u 35 = _ := endS_get hE 35 (by decide)
  have e36 : u 36 = _ := endS_get hE 36 (by decide)
  have e37 : u 37 = _ := endS_get hE 37 (by decide)
  have e38 : u 38 = _ := endS_get hE 38 (by decide)
  have e39 : u 39 = _ := endS_get hE 39 (by decide)
  have e40 : u 40 = _ := endS_get hE 40 (by decide)
  have e41 : u 41 = _ := endS_get hE 41 (by decide)
  have e42 : u 42 = _ := endS_get hE 42 (by decide)
  have e43 : u 43 = _ := endS_get hE 43 (by decide)
  have e44 : u 44 = _ := endS_get hE 44 (by decide)
  simp only [List.drop_succ_cons, List.drop_zero, List.take_succ_cons, List.take_zero, fillL, Act.put, List.setIfInBounds_toArray, List.set_cons_zero, List.set_cons_succ, e0, e1, e2, e3, e4, e5, e6, e7, e8, e9, e10, e11, e12, e13, e14, e15, e16, e17, e18, e19, e20, e21, e22, e23, e24, e25, e26, e27, e28, e29, e30, e31, e32, e33, e34, e35, e36, e37, e38, e39, e40, e41, e42, e43, e44]
  clear e0 e1 e2 e3 e4 e5 e6 e7 e8 e9 e10 e11 e12 e13 e14 e15 e16 e17 e18 e19 e20 e21 e22 e23 e24 e25 e26 e27 e28 e29 e30 e31 e32 e33 e34 e35 e36 e37 e38 e39 e40 e41 e42 e43 e44 hE
  have HBw7 := Lib.hid (below_step (w := w1) (by first | assumption | go_grown) hb)
  have HBXw7 := Lib.hid hb
  have hzw7 := hb.size
  (try simp only [World.size_alloc, World.size_setCell] at hzw7)
  have hzw70 : w1.heap.size < w7.heap.size := by omega
  have hzw71 : w2.heap.size < w7.heap.size := by omega
  have hzw72 : w3.heap.size < w7.heap.size := by omega
  have hzw73 : w5.heap.size < w7.heap.size := by omega
  obtain ⟨hcw7, hfw7⟩ := bcell hb
  clear hb hzw7
  go_wp2
  go_returns
  exact ⟨rfl, below_step hBB1 HBw7.out⟩
end Go.Proofs.Ytpjdmjmgkdgfnaa
