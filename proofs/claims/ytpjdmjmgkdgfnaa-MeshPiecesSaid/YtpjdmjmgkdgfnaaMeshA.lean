/-
  Points and faces in memory; beyond, inside, Det, determinant, the reference's sum, by walks. Conditions: none. By an AI agent.
-/
import Derived.Test.YtpjdmjmgkdgfnaaMeshQ
import Derived.Test.YtpjdmjmgkdgfnaaWideE
import Derived.Laws.Cover1
namespace Go.Proofs.Ytpjdmjmgkdgfnaa
open Go Go.RowKit
set_option linter.unusedVariables false
set_option linter.unusedSimpArgs false
set_option maxRecDepth 100000

def cv3 (X : V) : Nat → Value
  | 0 => .int .i64 X.1
  | 1 => .int .i64 X.2.1
  | _ => .int .i64 X.2.2
/-- rows of three ints -/
def RowAt (w : World) (v : Value) (n : Nat) (F : Nat → V) : Prop := SliceAt w v n 3 (fun i j => cv3 (F i) j)
theorem RowAt.below {w w' : World} {v : Value} {n : Nat} {F : Nat → V} (h : RowAt w v n F) (hb : Below w.heap.size w w') : RowAt w' v n F := SliceAt.below h hb
theorem RowAt.form {w : World} {v : Value} {n : Nat} {F : Nat → V} (h : RowAt w v n F) : ∃ (oa : Option Addr) (cap : Nat), v = .slice oa n cap ∧ n ≤ cap ∧ cap ≤ 9223372036854775807 ∧
    ∀ i, i < n → ∃ b off, oa = some ⟨b, off, none⟩ ∧ b < w.heap.size ∧ ∀ k, k < n → w.cell? ⟨b, off + k * 3, none⟩ = some (.int .i64 (F k).1) ∧ w.cell? ⟨b, off + k * 3 + 1, none⟩ = some (.int .i64 (F k).2.1) ∧ w.cell? ⟨b, off + k * 3 + 2, none⟩ = some (.int .i64 (F k).2.2) := by
  obtain ⟨oa, cap, h1, h2, h3, h4⟩ := h
  refine ⟨oa, cap, h1, h2, h3, fun i hi => ?_⟩
  obtain ⟨b, off, e, hlt, hc⟩ := h4 (by omega)
  exact ⟨b, off, e, hlt, fun k hk => ⟨hc k 0 hk (by decide), hc k 1 hk (by decide), hc k 2 hk (by decide)⟩⟩
/-- a surface in memory -/
def MAt (w : World) (v : Value) (np : Nat) (P : Nat → V) (nf : Nat) (F : Nat → V) : Prop := ∃ vp vf, v = .agg #[vp, vf] ∧ RowAt w vp np P ∧ RowAt w vf nf F
theorem MAt.below {w w' : World} {v : Value} {np : Nat} {P : Nat → V} {nf : Nat} {F : Nat → V} (h : MAt w v np P nf F) (hb : Below w.heap.size w w') : MAt w' v np P nf F := by
  obtain ⟨vp, vf, e, h1, h2⟩ := h
  exact ⟨vp, vf, e, h1.below hb, h2.below hb⟩
theorem MAt.slices {w : World} {v : Value} {np : Nat} {P : Nat → V} {nf : Nat} {F : Nat → V} (h : MAt w v np P nf F) : ∃ op cp of cf, v = .agg #[.slice op np cp, .slice of nf cf] := by
  obtain ⟨vp, vf, rfl, h1, h2⟩ := h
  obtain ⟨op, cp, rfl, -, -, -⟩ := h1.form
  obtain ⟨of, cf, rfl, -, -, -⟩ := h2.form
  exact ⟨_, _, _, _, rfl⟩
theorem mul_bd {a b C D : Int} (hC : 0 ≤ C) (hD : 0 ≤ D) (h1 : -C ≤ a) (h2 : a ≤ C) (h3 : -D ≤ b) (h4 : b ≤ D) : -(C * D) ≤ a * b ∧ a * b ≤ C * D := by
  have e1 := Int.mul_nonneg (show 0 ≤ C - a by omega) (show 0 ≤ D - b by omega)
  have e2 := Int.mul_nonneg (show 0 ≤ C + a by omega) (show 0 ≤ D + b by omega)
  have e3 := Int.mul_nonneg (show 0 ≤ C - a by omega) (show 0 ≤ D + b by omega)
  have e4 := Int.mul_nonneg (show 0 ≤ C + a by omega) (show 0 ≤ D - b by omega)
  constructor <;> grind
def mx3 (x y z : Int) : Int := if z > (if y > x then y else x) then z else (if y > x then y else x)
def mn3 (x y z : Int) : Int := if z < (if y < x then y else x) then z else (if y < x then y else x)
theorem run_mx3 (ts : Array TypeId) (t : TypeId) (x y z : Int) (w : World) : (Builtin.max_ ts t #[.int .i64 x, .int .i64 y, .int .i64 z]).run Try.prog w = .ok (.int .i64 (mx3 x y z)) w := run_max_int3 w ts t .i64 .i64 .i64 x y z
theorem run_mn3 (ts : Array TypeId) (t : TypeId) (x y z : Int) (w : World) : (Builtin.min_ ts t #[.int .i64 x, .int .i64 y, .int .i64 z]).run Try.prog w = .ok (.int .i64 (mn3 x y z)) w := run_min_int3 w ts t .i64 .i64 .i64 x y z
theorem mx3_iff {x y z k : Int} : k < mx3 x y z ↔ k < x ∨ k < y ∨ k < z := by unfold mx3; split <;> split <;> omega
theorem mn3_iff {x y z k : Int} : mn3 x y z < k ↔ x < k ∨ y < k ∨ z < k := by unfold mn3; split <;> split <;> omega

set_option maxHeartbeats 2000000 in
theorem beyond_any (px py pz : Int) (w : World) : Calls Try.prog 31 #[.agg #[.int .i64 px, .int .i64 py, .int .i64 pz]] w fun e w' => e = .returned (.bool (!inB20 (px, py, pz))) ∧ Below w.heap.size w w' := by
  obtain ⟨MX, hMX⟩ : ∃ m, mx3 px py pz = m := ⟨_, rfl⟩
  obtain ⟨MN, hMN⟩ : ∃ m, mn3 px py pz = m := ⟨_, rfl⟩
  have h1 := run_mx3 (x := px) (y := py) (z := pz)
  have h2 := run_mn3 (x := px) (y := py) (z := pz)
  rw [hMX] at h1
  rw [hMN] at h2
  have i1 := mx3_iff (x := px) (y := py) (z := pz) (k := 1048576)
  have i2 := mn3_iff (x := px) (y := py) (z := pz) (k := -1048576)
  rw [hMX] at i1
  rw [hMN] at i2
  have hb0 : InB 1048576 (px, py, pz) ↔ (¬ 1048576 < MX ∧ ¬ MN < -1048576) := by
    unfold InB
    dsimp only
    constructor
    · rintro ⟨q1, q2, q3, q4, q5, q6⟩
      exact ⟨fun hm => by have := i1.1 hm; omega, fun hm => by have := i2.1 hm; omega⟩
    · rintro ⟨a, b⟩
      have c1 := mt i1.2 a
      have c2 := mt i2.2 b
      omega
  have HB : Hid (inB20 (px, py, pz) = decide (¬ 1048576 < MX ∧ ¬ MN < -1048576)) := decide_eq_decide.2 hb0
  clear hb0
  clear i1 i2 hMX hMN
  by_cases hx : 1048576 < MX
  · have kx : decide (1048576 < MX) = true := decide_eq_true hx
    have HE : Hid ((!inB20 (px, py, pz)) = true) := by show _ = _; rw [HB.out, decide_eq_false (by omega)]; rfl
    go_enter Try.func31, Try.ntmps31
    go_wp2
    go_returns
    rw [HE.out]
    exact ⟨rfl, by go_grown⟩
  · have kx : decide (1048576 < MX) = false := decide_eq_false hx
    obtain ⟨BB, hBB⟩ : ∃ b, decide (MN < -1048576) = b := ⟨_, rfl⟩
    have HE : Hid ((!inB20 (px, py, pz)) = BB) := by
      show _ = _
      rw [HB.out, ← hBB]
      by_cases hn : MN < -1048576
      · rw [decide_eq_true hn, decide_eq_false (by omega)]; rfl
      · rw [decide_eq_false hn, decide_eq_true ⟨hx, hn⟩]; rfl
    go_enter Try.func31, Try.ntmps31
    go_wp2
    go_returns
    rw [HE.out]
    exact ⟨rfl, by go_grown⟩

set_option maxHeartbeats 2000000 in
theorem inside_any (px py pz : Int) (w : World) : Calls Try.prog 34 #[.agg #[.int .i64 px, .int .i64 py, .int .i64 pz]] w fun e w' => e = .returned (.bool (inB20 (px, py, pz))) ∧ Below w.heap.size w w' := by
  by_cases h0 : -1048576 ≤ px
  · have k0 : decide (-1048576 ≤ px) = true := decide_eq_true h0
    by_cases h1 : px ≤ 1048576
    · have k1 : decide (px ≤ 1048576) = true := decide_eq_true h1
      by_cases h2 : -1048576 ≤ py
      · have k2 : decide (-1048576 ≤ py) = true := decide_eq_true h2
        by_cases h3 : py ≤ 1048576
        · have k3 : decide (py ≤ 1048576) = true := decide_eq_true h3
          by_cases h4 : -1048576 ≤ pz
          · have k4 : decide (-1048576 ≤ pz) = true := decide_eq_true h4
            by_cases h5 : pz ≤ 1048576
            · have k5 : decide (pz ≤ 1048576) = true := decide_eq_true h5
              have HE : Hid (inB20 (px, py, pz) = true) := decide_eq_true ⟨h0, h1, h2, h3, h4, h5⟩
              clear h0 h1 h2 h3 h4 h5
              go_enter Try.func34, Try.ntmps34
              go_wp2
              go_returns
              rw [HE.out]
              exact ⟨rfl, by go_grown⟩
            · have k5 : decide (pz ≤ 1048576) = false := decide_eq_false h5
              have HE : Hid (inB20 (px, py, pz) = false) := decide_eq_false (by unfold InB; dsimp only; omega)
              go_enter Try.func34, Try.ntmps34
              go_wp2
              go_returns
              rw [HE.out]
              exact ⟨rfl, by go_grown⟩
          · have k4 : decide (-1048576 ≤ pz) = false := decide_eq_false h4
            have HE : Hid (inB20 (px, py, pz) = false) := decide_eq_false (by unfold InB; dsimp only; omega)
            go_enter Try.func34, Try.ntmps34
            go_wp2
            go_returns
            rw [HE.out]
            exact ⟨rfl, by go_grown⟩
        · have k3 : decide (py ≤ 1048576) = false := decide_eq_false h3
          have HE : Hid (inB20 (px, py, pz) = false) := decide_eq_false (by unfold InB; dsimp only; omega)
          go_enter Try.func34, Try.ntmps34
          go_wp2
          go_returns
          rw [HE.out]
          exact ⟨rfl, by go_grown⟩
      · have k2 : decide (-1048576 ≤ py) = false := decide_eq_false h2
        have HE : Hid (inB20 (px, py, pz) = false) := decide_eq_false (by unfold InB; dsimp only; omega)
        go_enter Try.func34, Try.ntmps34
        go_wp2
        go_returns
        rw [HE.out]
        exact ⟨rfl, by go_grown⟩
    · have k1 : decide (px ≤ 1048576) = false := decide_eq_false h1
      have HE : Hid (inB20 (px, py, pz) = false) := decide_eq_false (by unfold InB; dsimp only; omega)
      go_enter Try.func34, Try.ntmps34
      go_wp2
      go_returns
      rw [HE.out]
      exact ⟨rfl, by go_grown⟩
  · have k0 : decide (-1048576 ≤ px) = false := decide_eq_false h0
    have HE : Hid (inB20 (px, py, pz) = false) := decide_eq_false (by unfold InB; dsimp only; omega)
    go_enter Try.func34, Try.ntmps34
    go_wp2
    go_returns
    rw [HE.out]
    exact ⟨rfl, by go_grown⟩

set_option maxHeartbeats 2000000 in
theorem rDet_any (px py pz qx qy qz rx ry rz : Int) (w : World) (hpx : -1048576 ≤ px ∧ px ≤ 1048576) (hpy : -1048576 ≤ py ∧ py ≤ 1048576) (hpz : -1048576 ≤ pz ∧ pz ≤ 1048576) (hqx : -1048576 ≤ qx ∧ qx ≤ 1048576) (hqy : -1048576 ≤ qy ∧ qy ≤ 1048576) (hqz : -1048576 ≤ qz ∧ qz ≤ 1048576) (hrx : -1048576 ≤ rx ∧ rx ≤ 1048576) (hry : -1048576 ≤ ry ∧ ry ≤ 1048576) (hrz : -1048576 ≤ rz ∧ rz ≤ 1048576) :
    Calls Try.prog 27 #[.agg #[.int .i64 px, .int .i64 py, .int .i64 pz], .agg #[.int .i64 qx, .int .i64 qy, .int .i64 qz], .agg #[.int .i64 rx, .int .i64 ry, .int .i64 rz]] w fun e w' => e = .returned (.int .i64 (px * (qy * rz - qz * ry) + py * (qz * rx - qx * rz) + pz * (qx * ry - qy * rx))) ∧ Below w.heap.size w w' := by
  have b0 := mul_bd (C := 1048576) (D := 1048576) (by decide) (by decide) hqy.1 hqy.2 hrz.1 hrz.2
  have b1 := mul_bd (C := 1048576) (D := 1048576) (by decide) (by decide) hqz.1 hqz.2 hry.1 hry.2
  have b2 := mul_bd (C := 1048576) (D := 1048576) (by decide) (by decide) hqz.1 hqz.2 hrx.1 hrx.2
  have b3 := mul_bd (C := 1048576) (D := 1048576) (by decide) (by decide) hqx.1 hqx.2 hrz.1 hrz.2
  have b4 := mul_bd (C := 1048576) (D := 1048576) (by decide) (by decide) hqx.1 hqx.2 hry.1 hry.2
  have b5 := mul_bd (C := 1048576) (D := 1048576) (by decide) (by decide) hqy.1 hqy.2 hrx.1 hrx.2
  have c0 := mul_bd (a := px) (b := qy * rz - qz * ry) (C := 1048576) (D := 2199023255552) (by decide) (by decide) hpx.1 hpx.2 (by omega) (by omega)
  have c1 := mul_bd (a := py) (b := qz * rx - qx * rz) (C := 1048576) (D := 2199023255552) (by decide) (by decide) hpy.1 hpy.2 (by omega) (by omega)
  have c2 := mul_bd (a := pz) (b := qx * ry - qy * rx) (C := 1048576) (D := 2199023255552) (by decide) (by decide) hpz.1 hpz.2 (by omega) (by omega)
  have m0 : IntKind.i64.wrap (qy * rz) = qy * rz := IntWalk.i64_in _ (by omega)
  have m1 : IntKind.i64.wrap (qz * ry) = qz * ry := IntWalk.i64_in _ (by omega)
  have m2 : IntKind.i64.wrap (qz * rx) = qz * rx := IntWalk.i64_in _ (by omega)
  have m3 : IntKind.i64.wrap (qx * rz) = qx * rz := IntWalk.i64_in _ (by omega)
  have m4 : IntKind.i64.wrap (qx * ry) = qx * ry := IntWalk.i64_in _ (by omega)
  have m5 : IntKind.i64.wrap (qy * rx) = qy * rx := IntWalk.i64_in _ (by omega)
  have n0 : IntKind.i64.wrap (qy * rz - qz * ry) = qy * rz - qz * ry := IntWalk.i64_in _ (by omega)
  have o0 : IntKind.i64.wrap (px * (qy * rz - qz * ry)) = px * (qy * rz - qz * ry) := IntWalk.i64_in _ (by omega)
  have n1 : IntKind.i64.wrap (qz * rx - qx * rz) = qz * rx - qx * rz := IntWalk.i64_in _ (by omega)
  have o1 : IntKind.i64.wrap (py * (qz * rx - qx * rz)) = py * (qz * rx - qx * rz) := IntWalk.i64_in _ (by omega)
  have n2 : IntKind.i64.wrap (qx * ry - qy * rx) = qx * ry - qy * rx := IntWalk.i64_in _ (by omega)
  have o2 : IntKind.i64.wrap (pz * (qx * ry - qy * rx)) = pz * (qx * ry - qy * rx) := IntWalk.i64_in _ (by omega)
  have u0 : IntKind.i64.wrap (px * (qy * rz - qz * ry) + py * (qz * rx - qx * rz)) = px * (qy * rz - qz * ry) + py * (qz * rx - qx * rz) := IntWalk.i64_in _ (by omega)
  have u1 : IntKind.i64.wrap (px * (qy * rz - qz * ry) + py * (qz * rx - qx * rz) + pz * (qx * ry - qy * rx)) = px * (qy * rz - qz * ry) + py * (qz * rx - qx * rz) + pz * (qx * ry - qy * rx) := IntWalk.i64_in _ (by omega)
  clear b0 b1 b2 b3 b4 b5 c0 c1 c2
  go_enter Try.func27, Try.ntmps27
  go_wp2
  go_returns
  exact ⟨rfl, by go_grown⟩

set_option maxHeartbeats 4000000 in
theorem determinant_any (v : Value) (np : Nat) (P : Nat → V) (nf : Nat) (F : Nat → V) (ia ib ic : Nat) (w : World) (h : MAt w v np P nf F) (hin : ∀ i, i < np → InB 1048576 (P i)) (hia : ia < np) (hib : ib < np) (hic : ic < np) :
    Calls Try.prog 42 #[v, .agg #[.int .i64 ia, .int .i64 ib, .int .i64 ic]] w fun e w' => e = .returned (.int .i64 (detV (P ia) (P ib) (P ic))) ∧ Below w.heap.size w w' := by
  obtain ⟨vp, vf, rfl, h1, h2⟩ := h
  obtain ⟨op, cp, rfl, hn, hc, hel⟩ := h1.form
  obtain ⟨of', cf, rfl, -, -, -⟩ := h2.form
  obtain ⟨bb, of, rfl, hbb, hcl⟩ := hel ia hia
  obtain ⟨px, pxE⟩ : ∃ x, (P ia).1 = x := ⟨_, rfl⟩
  obtain ⟨py, pyE⟩ : ∃ x, (P ia).2.1 = x := ⟨_, rfl⟩
  obtain ⟨pz, pzE⟩ : ∃ x, (P ia).2.2 = x := ⟨_, rfl⟩
  obtain ⟨qx, qxE⟩ : ∃ x, (P ib).1 = x := ⟨_, rfl⟩
  obtain ⟨qy, qyE⟩ : ∃ x, (P ib).2.1 = x := ⟨_, rfl⟩
  obtain ⟨qz, qzE⟩ : ∃ x, (P ib).2.2 = x := ⟨_, rfl⟩
  obtain ⟨rx, rxE⟩ : ∃ x, (P ic).1 = x := ⟨_, rfl⟩
  obtain ⟨ry, ryE⟩ : ∃ x, (P ic).2.1 = x := ⟨_, rfl⟩
  obtain ⟨rz, rzE⟩ : ∃ x, (P ic).2.2 = x := ⟨_, rfl⟩
  show Calls Try.prog 42 _ w fun e w' => e = .returned (.int .i64 ((P ia).1 * ((P ib).2.1 * (P ic).2.2 - (P ib).2.2 * (P ic).2.1) + (P ia).2.1 * ((P ib).2.2 * (P ic).1 - (P ib).1 * (P ic).2.2) + (P ia).2.2 * ((P ib).1 * (P ic).2.1 - (P ib).2.1 * (P ic).1))) ∧ Below w.heap.size w w'
  have hpx : -1048576 ≤ px ∧ px ≤ 1048576 := by rw [← pxE]; have := hin ia hia; unfold InB at this; omega
  have hpy : -1048576 ≤ py ∧ py ≤ 1048576 := by rw [← pyE]; have := hin ia hia; unfold InB at this; omega
  have hpz : -1048576 ≤ pz ∧ pz ≤ 1048576 := by rw [← pzE]; have := hin ia hia; unfold InB at this; omega
  have hqx : -1048576 ≤ qx ∧ qx ≤ 1048576 := by rw [← qxE]; have := hin ib hib; unfold InB at this; omega
  have hqy : -1048576 ≤ qy ∧ qy ≤ 1048576 := by rw [← qyE]; have := hin ib hib; unfold InB at this; omega
  have hqz : -1048576 ≤ qz ∧ qz ≤ 1048576 := by rw [← qzE]; have := hin ib hib; unfold InB at this; omega
  have hrx : -1048576 ≤ rx ∧ rx ≤ 1048576 := by rw [← rxE]; have := hin ic hic; unfold InB at this; omega
  have hry : -1048576 ≤ ry ∧ ry ≤ 1048576 := by rw [← ryE]; have := hin ic hic; unfold InB at this; omega
  have hrz : -1048576 ≤ rz ∧ rz ≤ 1048576 := by rw [← rzE]; have := hin ic hic; unfold InB at this; omega
  have epx : w.cell? ⟨bb, of + ia * 3, none⟩ = some (.int .i64 px) := (hcl ia hia).1.trans (by rw [pxE])
  have epy : w.cell? ⟨bb, of + ia * 3 + 1, none⟩ = some (.int .i64 py) := (hcl ia hia).2.1.trans (by rw [pyE])
  have epz : w.cell? ⟨bb, of + ia * 3 + 2, none⟩ = some (.int .i64 pz) := (hcl ia hia).2.2.trans (by rw [pzE])
  have eqx : w.cell? ⟨bb, of + ib * 3, none⟩ = some (.int .i64 qx) := (hcl ib hib).1.trans (by rw [qxE])
  have eqy : w.cell? ⟨bb, of + ib * 3 + 1, none⟩ = some (.int .i64 qy) := (hcl ib hib).2.1.trans (by rw [qyE])
  have eqz : w.cell? ⟨bb, of + ib * 3 + 2, none⟩ = some (.int .i64 qz) := (hcl ib hib).2.2.trans (by rw [qzE])
  have erx : w.cell? ⟨bb, of + ic * 3, none⟩ = some (.int .i64 rx) := (hcl ic hic).1.trans (by rw [rxE])
  have ery : w.cell? ⟨bb, of + ic * 3 + 1, none⟩ = some (.int .i64 ry) := (hcl ic hic).2.1.trans (by rw [ryE])
  have erz : w.cell? ⟨bb, of + ic * 3 + 2, none⟩ = some (.int .i64 rz) := (hcl ic hic).2.2.trans (by rw [rzE])
  rw [pxE, pyE, pzE, qxE, qyE, qzE, rxE, ryE, rzE]
  have hb1 : bb < w.heap.size + 1 := by omega
  have hb2 : bb < w.heap.size + 1 + 1 := by omega
  have hb3 : bb ≠ w.heap.size := by omega
  have hb4 : bb ≠ w.heap.size + 1 := by omega
  clear h1 h2 hel hcl hin pxE pyE pzE qxE qyE qzE rxE ryE rzE
  have b0 := mul_bd (C := 1048576) (D := 1048576) (by decide) (by decide) hqy.1 hqy.2 hrz.1 hrz.2
  have b1 := mul_bd (C := 1048576) (D := 1048576) (by decide) (by decide) hqz.1 hqz.2 hry.1 hry.2
  have b2 := mul_bd (C := 1048576) (D := 1048576) (by decide) (by decide) hqz.1 hqz.2 hrx.1 hrx.2
  have b3 := mul_bd (C := 1048576) (D := 1048576) (by decide) (by decide) hqx.1 hqx.2 hrz.1 hrz.2
  have b4 := mul_bd (C := 1048576) (D := 1048576) (by decide) (by decide) hqx.1 hqx.2 hry.1 hry.2
  have b5 := mul_bd (C := 1048576) (D := 1048576) (by decide) (by decide) hqy.1 hqy.2 hrx.1 hrx.2
  have c0 := mul_bd (a := px) (b := qy * rz - qz * ry) (C := 1048576) (D := 2199023255552) (by decide) (by decide) hpx.1 hpx.2 (by omega) (by omega)
  have c1 := mul_bd (a := py) (b := qz * rx - qx * rz) (C := 1048576) (D := 2199023255552) (by decide) (by decide) hpy.1 hpy.2 (by omega) (by omega)
  have c2 := mul_bd (a := pz) (b := qx * ry - qy * rx) (C := 1048576) (D := 2199023255552) (by decide) (by decide) hpz.1 hpz.2 (by omega) (by omega)
  have m0 : IntKind.i64.wrap (qy * rz) = qy * rz := IntWalk.i64_in _ (by omega)
  have m1 : IntKind.i64.wrap (qz * ry) = qz * ry := IntWalk.i64_in _ (by omega)
  have m2 : IntKind.i64.wrap (qz * rx) = qz * rx := IntWalk.i64_in _ (by omega)
  have m3 : IntKind.i64.wrap (qx * rz) = qx * rz := IntWalk.i64_in _ (by omega)
  have m4 : IntKind.i64.wrap (qx * ry) = qx * ry := IntWalk.i64_in _ (by omega)
  have m5 : IntKind.i64.wrap (qy * rx) = qy * rx := IntWalk.i64_in _ (by omega)
  have n0 : IntKind.i64.wrap (qy * rz - qz * ry) = qy * rz - qz * ry := IntWalk.i64_in _ (by omega)
  have o0 : IntKind.i64.wrap (px * (qy * rz - qz * ry)) = px * (qy * rz - qz * ry) := IntWalk.i64_in _ (by omega)
  have n1 : IntKind.i64.wrap (qz * rx - qx * rz) = qz * rx - qx * rz := IntWalk.i64_in _ (by omega)
  have o1 : IntKind.i64.wrap (py * (qz * rx - qx * rz)) = py * (qz * rx - qx * rz) := IntWalk.i64_in _ (by omega)
  have n2 : IntKind.i64.wrap (qx * ry - qy * rx) = qx * ry - qy * rx := IntWalk.i64_in _ (by omega)
  have o2 : IntKind.i64.wrap (pz * (qx * ry - qy * rx)) = pz * (qx * ry - qy * rx) := IntWalk.i64_in _ (by omega)
  have u0 : IntKind.i64.wrap (px * (qy * rz - qz * ry) + py * (qz * rx - qx * rz)) = px * (qy * rz - qz * ry) + py * (qz * rx - qx * rz) := IntWalk.i64_in _ (by omega)
  have u1 : IntKind.i64.wrap (px * (qy * rz - qz * ry) + py * (qz * rx - qx * rz) + pz * (qx * ry - qy * rx)) = px * (qy * rz - qz * ry) + py * (qz * rx - qx * rz) + pz * (qx * ry - qy * rx) := IntWalk.i64_in _ (by omega)
  clear b0 b1 b2 b3 b4 b5 c0 c1 c2
  have k0 : (0 : Int) ≤ (ia : Int) := by omega
  have k1 : (ia : Int) < (np : Int) := by omega
  have k2 : (0 : Int) ≤ (ib : Int) := by omega
  have k3 : (ib : Int) < (np : Int) := by omega
  have k4 : (0 : Int) ≤ (ic : Int) := by omega
  have k5 : (ic : Int) < (np : Int) := by omega
  clear hpx hpy hpz hqx hqy hqz hrx hry hrz
  go_enter Try.func42, Try.ntmps42
  go_wp2_with fail
  refine wp_region_seq 24 [⟨18, 21, #[.int .i64 0, .int .i64 0, .int .i64 0], 40⟩, ⟨19, 22, #[.int .i64 0, .int .i64 0, .int .i64 0], 40⟩, ⟨20, 23, #[.int .i64 0, .int .i64 0, .int .i64 0], 40⟩] [] (by kernel_rfl) (by kernel_rfl) (by kernel_rfl) (by kernel_rfl) (by kernel_rfl) ?_ ?_ ?_
  · intro r hr; cases hr
  · intro r hr; cases hr
  simp only [List.take_succ_cons, List.take_zero, fillL, Act.put, List.setIfInBounds_toArray, List.set_cons_zero, List.set_cons_succ]
  apply seq_is (by kernel_rfl)
  · intro u wx hb hd
    replace hb := hb.nil
    have hz := hb.size
    (try simp only [World.size_alloc, World.size_setCell] at hz)
    have hz0 : w.heap.size < wx.heap.size := by omega
    have hz1 : w.heap.size + 1 < wx.heap.size := by omega
    have hz2 : bb < wx.heap.size := by omega
    obtain ⟨hc, hf⟩ := bcell hb
    clear hb hz
    simp [depsE, Region.binds, updE, kindOf, Prp.is, Prp.any] at hd
    go_simp
    first | exact ⟨Below.refl _ _, rfl⟩ | rfl
  apply seq_is (by kernel_rfl)
  · intro u wx hb hd
    replace hb := hb.nil
    have hz := hb.size
    (try simp only [World.size_alloc, World.size_setCell] at hz)
    have hz0 : w.heap.size < wx.heap.size := by omega
    have hz1 : w.heap.size + 1 < wx.heap.size := by omega
    have hz2 : bb < wx.heap.size := by omega
    obtain ⟨hc, hf⟩ := bcell hb
    clear hb hz
    simp [depsE, Region.binds, updE, kindOf, Prp.is, Prp.any] at hd
    go_simp
    first | exact ⟨Below.refl _ _, rfl⟩ | rfl
  apply seq_is (by kernel_rfl)
  · intro u wx hb hd
    replace hb := hb.nil
    have hz := hb.size
    (try simp only [World.size_alloc, World.size_setCell] at hz)
    have hz0 : w.heap.size < wx.heap.size := by omega
    have hz1 : w.heap.size + 1 < wx.heap.size := by omega
    have hz2 : bb < wx.heap.size := by omega
    obtain ⟨hc, hf⟩ := bcell hb
    clear hb hz
    simp [depsE, Region.binds, updE, kindOf, Prp.is, Prp.any] at hd
    go_simp
    first | exact ⟨Below.refl _ _, rfl⟩ | rfl
  apply seq_is (by kernel_rfl)
  · intro u wx hb hd
    replace hb := hb.nil
    have hz := hb.size
    (try simp only [World.size_alloc, World.size_setCell] at hz)
    have hz0 : w.heap.size < wx.heap.size := by omega
    have hz1 : w.heap.size + 1 < wx.heap.size := by omega
    have hz2 : bb < wx.heap.size := by omega
    obtain ⟨hc, hf⟩ := bcell hb
    clear hb hz
    simp [depsE, Region.binds, updE, kindOf, Prp.is, Prp.any] at hd
    go_simp
    first | exact ⟨Below.refl _ _, rfl⟩ | rfl
  apply seq_is (by kernel_rfl)
  · intro u wx hb hd
    replace hb := hb.nil
    have hz := hb.size
    (try simp only [World.size_alloc, World.size_setCell] at hz)
    have hz0 : w.heap.size < wx.heap.size := by omega
    have hz1 : w.heap.size + 1 < wx.heap.size := by omega
    have hz2 : bb < wx.heap.size := by omega
    obtain ⟨hc, hf⟩ := bcell hb
    clear hb hz
    simp [depsE, Region.binds, updE, kindOf, Prp.is, Prp.any] at hd
    go_simp
    first | exact ⟨Below.refl _ _, rfl⟩ | rfl
  apply seq_is (by kernel_rfl)
  · intro u wx hb hd
    replace hb := hb.nil
    have hz := hb.size
    (try simp only [World.size_alloc, World.size_setCell] at hz)
    have hz0 : w.heap.size < wx.heap.size := by omega
    have hz1 : w.heap.size + 1 < wx.heap.size := by omega
    have hz2 : bb < wx.heap.size := by omega
    obtain ⟨hc, hf⟩ := bcell hb
    clear hb hz
    simp [depsE, Region.binds, updE, kindOf, Prp.is, Prp.any] at hd
    go_simp
    first | exact ⟨Below.refl _ _, rfl⟩ | rfl
  apply seq_is (by kernel_rfl)
  · intro u wx hb hd
    replace hb := hb.nil
    have hz := hb.size
    (try simp only [World.size_alloc, World.size_setCell] at hz)
    have hz0 : w.heap.size < wx.heap.size := by omega
    have hz1 : w.heap.size + 1 < wx.heap.size := by omega
    have hz2 : bb < wx.heap.size := by omega
    obtain ⟨hc, hf⟩ := bcell hb
    clear hb hz
    simp [depsE, Region.binds, updE, kindOf, Prp.is, Prp.any] at hd
    go_simp
    first | exact ⟨Below.refl _ _, rfl⟩ | rfl
  apply seq_is (by kernel_rfl)
  · intro u wx hb hd
    replace hb := hb.nil
    have hz := hb.size
    (try simp only [World.size_alloc, World.size_setCell] at hz)
    have hz0 : w.heap.size < wx.heap.size := by omega
    have hz1 : w.heap.size + 1 < wx.heap.size := by omega
    have hz2 : bb < wx.heap.size := by omega
    obtain ⟨hc, hf⟩ := bcell hb
    clear hb hz
    simp [depsE, Region.binds, updE, kindOf, Prp.is, Prp.any] at hd
    go_simp
    first | exact ⟨Below.refl _ _, rfl⟩ | rfl
  apply seq_is (by kernel_rfl)
  · intro u wx hb hd
    replace hb := hb.nil
    have hz := hb.size
    (try simp only [World.size_alloc, World.size_setCell] at hz)
    have hz0 : w.heap.size < wx.heap.size := by omega
    have hz1 : w.heap.size + 1 < wx.heap.size := by omega
    have hz2 : bb < wx.heap.size := by omega
    obtain ⟨hc, hf⟩ := bcell hb
    clear hb hz
    simp [depsE, Region.binds, updE, kindOf, Prp.is, Prp.any] at hd
    go_simp
    first | exact ⟨Below.refl _ _, rfl⟩ | rfl
  apply seq_is (by kernel_rfl)
  · intro u wx hb hd
    replace hb := hb.nil
    have hz := hb.size
    (try simp only [World.size_alloc, World.size_setCell] at hz)
    have hz0 : w.heap.size < wx.heap.size := by omega
    have hz1 : w.heap.size + 1 < wx.heap.size := by omega
    have hz2 : bb < wx.heap.size := by omega
    obtain ⟨hc, hf⟩ := bcell hb
    clear hb hz
    simp [depsE, Region.binds, updE, kindOf, Prp.is, Prp.any] at hd
    go_simp
    first | exact ⟨Below.refl _ _, rfl⟩ | rfl
  apply seq_is (by kernel_rfl)
  · intro u wx hb hd
    replace hb := hb.nil
    have hz := hb.size
    (try simp only [World.size_alloc, World.size_setCell] at hz)
    have hz0 : w.heap.size < wx.heap.size := by omega
    have hz1 : w.heap.size + 1 < wx.heap.size := by omega
    have hz2 : bb < wx.heap.size := by omega
    obtain ⟨hc, hf⟩ := bcell hb
    clear hb hz
    simp [depsE, Region.binds, updE, kindOf, Prp.is, Prp.any] at hd
    go_simp
    first | exact ⟨Below.refl _ _, rfl⟩ | rfl
  apply seq_is (by kernel_rfl)
  · intro u wx hb hd
    replace hb := hb.nil
    have hz := hb.size
    (try simp only [World.size_alloc, World.size_setCell] at hz)
    have hz0 : w.heap.size < wx.heap.size := by omega
    have hz1 : w.heap.size + 1 < wx.heap.size := by omega
    have hz2 : bb < wx.heap.size := by omega
    obtain ⟨hc, hf⟩ := bcell hb
    clear hb hz
    simp [depsE, Region.binds, updE, kindOf, Prp.is, Prp.any] at hd
    go_simp
    first | exact ⟨Below.refl _ _, rfl⟩ | rfl
  apply seq_is (by kernel_rfl)
  · intro u wx hb hd
    replace hb := hb.nil
    have hz := hb.size
    (try simp only [World.size_alloc, World.size_setCell] at hz)
    have hz0 : w.heap.size < wx.heap.size := by omega
    have hz1 : w.heap.size + 1 < wx.heap.size := by omega
    have hz2 : bb < wx.heap.size := by omega
    obtain ⟨hc, hf⟩ := bcell hb
    clear hb hz
    simp [depsE, Region.binds, updE, kindOf, Prp.is, Prp.any] at hd
    go_simp
    first | exact ⟨Below.refl _ _, rfl⟩ | rfl
  apply seq_is (by kernel_rfl)
  · intro u wx hb hd
    replace hb := hb.nil
    have hz := hb.size
    (try simp only [World.size_alloc, World.size_setCell] at hz)
    have hz0 : w.heap.size < wx.heap.size := by omega
    have hz1 : w.heap.size + 1 < wx.heap.size := by omega
    have hz2 : bb < wx.heap.size := by omega
    obtain ⟨hc, hf⟩ := bcell hb
    clear hb hz
    simp [depsE, Region.binds, updE, kindOf, Prp.is, Prp.any] at hd
    go_simp
    first | exact ⟨Below.refl _ _, rfl⟩ | rfl
  apply seq_is (by kernel_rfl)
  · intro u wx hb hd
    replace hb := hb.nil
    have hz := hb.size
    (try simp only [World.size_alloc, World.size_setCell] at hz)
    have hz0 : w.heap.size < wx.heap.size := by omega
    have hz1 : w.heap.size + 1 < wx.heap.size := by omega
    have hz2 : bb < wx.heap.size := by omega
    obtain ⟨hc, hf⟩ := bcell hb
    clear hb hz
    simp [depsE, Region.binds, updE, kindOf, Prp.is, Prp.any] at hd
    go_simp
    first | exact ⟨Below.refl _ _, rfl⟩ | rfl
  apply seq_is (by kernel_rfl)
  · intro u wx hb hd
    replace hb := hb.nil
    have hz := hb.size
    (try simp only [World.size_alloc, World.size_setCell] at hz)
    have hz0 : w.heap.size < wx.heap.size := by omega
    have hz1 : w.heap.size + 1 < wx.heap.size := by omega
    have hz2 : bb < wx.heap.size := by omega
    obtain ⟨hc, hf⟩ := bcell hb
    clear hb hz
    simp [depsE, Region.binds, updE, kindOf, Prp.is, Prp.any] at hd
    go_simp
    first | exact ⟨Below.refl _ _, rfl⟩ | rfl
  apply seq_is (by kernel_rfl)
  · intro u wx hb hd
    replace hb := hb.nil
    have hz := hb.size
    (try simp only [World.size_alloc, World.size_setCell] at hz)
    have hz0 : w.heap.size < wx.heap.size := by omega
    have hz1 : w.heap.size + 1 < wx.heap.size := by omega
    have hz2 : bb < wx.heap.size := by omega
    obtain ⟨hc, hf⟩ := bcell hb
    clear hb hz
    simp [depsE, Region.binds, updE, kindOf, Prp.is, Prp.any] at hd
    go_simp
    first | exact ⟨Below.refl _ _, rfl⟩ | rfl
  apply seq_is (by kernel_rfl)
  · intro u wx hb hd
    replace hb := hb.nil
    have hz := hb.size
    (try simp only [World.size_alloc, World.size_setCell] at hz)
    have hz0 : w.heap.size < wx.heap.size := by omega
    have hz1 : w.heap.size + 1 < wx.heap.size := by omega
    have hz2 : bb < wx.heap.size := by omega
    obtain ⟨hc, hf⟩ := bcell hb
    clear hb hz
    simp [depsE, Region.binds, updE, kindOf, Prp.is, Prp.any] at hd
    go_simp
    first | exact ⟨Below.refl _ _, rfl⟩ | rfl
  refine seq_var ⟨18, 21, #[.int .i64 0, .int .i64 0, .int .i64 0], 40⟩ (by simp) rfl ?_ ?_
  · intro u wx hb
    refine ⟨by simp [Region.wanted], ?_⟩
    go_simp
    first | done | rfl | exact ⟨rfl, rfl⟩
  refine seq_var ⟨19, 22, #[.int .i64 0, .int .i64 0, .int .i64 0], 40⟩ (by simp) rfl ?_ ?_
  · intro u wx hb
    refine ⟨by simp [Region.wanted], ?_⟩
    go_simp
    first | done | rfl | exact ⟨rfl, rfl⟩
  refine seq_var ⟨20, 23, #[.int .i64 0, .int .i64 0, .int .i64 0], 40⟩ (by simp) rfl ?_ ?_
  · intro u wx hb
    refine ⟨by simp [Region.wanted], ?_⟩
    go_simp
    first | done | rfl | exact ⟨rfl, rfl⟩
  apply seq_sto_agg ⟨18, 21, #[.int .i64 0, .int .i64 0, .int .i64 0], 40⟩ (by simp) rfl (by kernel_rfl) rfl (by kernel_rfl)
  · intro u wx hb hd
    replace hb := hb.nil
    have hz := hb.size
    (try simp only [World.size_alloc, World.size_setCell] at hz)
    have hz0 : w.heap.size < wx.heap.size := by omega
    have hz1 : w.heap.size + 1 < wx.heap.size := by omega
    have hz2 : bb < wx.heap.size := by omega
    obtain ⟨hc, hf⟩ := bcell hb
    clear hb hz
    simp [depsE, Region.binds, updE, kindOf, Prp.is, Prp.any] at hd
    refine ⟨by simp [Region.wanted], fun b' hub hlb hcells => ?_⟩
    have hub' : u 18 = .pointer (some ⟨b', 0, none⟩) := hub
    have hcells' : wx.heap[b']? = some (.cells #[.int .i64 0, .int .i64 0, .int .i64 0] 40) := hcells
    have hat := cells_at3 hcells'
    have HCL := Lib.hid hcells'
    clear hcells hcells' hub
    go_simp
    exact Stored.c3 HCL.out _ _ _
  apply seq_sto_agg ⟨19, 22, #[.int .i64 0, .int .i64 0, .int .i64 0], 40⟩ (by simp) rfl (by kernel_rfl) rfl (by kernel_rfl)
  · intro u wx hb hd
    replace hb := hb.nil
    have hz := hb.size
    (try simp only [World.size_alloc, World.size_setCell] at hz)
    have hz0 : w.heap.size < wx.heap.size := by omega
    have hz1 : w.heap.size + 1 < wx.heap.size := by omega
    have hz2 : bb < wx.heap.size := by omega
    obtain ⟨hc, hf⟩ := bcell hb
    clear hb hz
    simp [depsE, Region.binds, updE, kindOf, Prp.is, Prp.any] at hd
    refine ⟨by simp [Region.wanted], fun b' hub hlb hcells => ?_⟩
    have hub' : u 19 = .pointer (some ⟨b', 0, none⟩) := hub
    have hcells' : wx.heap[b']? = some (.cells #[.int .i64 0, .int .i64 0, .int .i64 0] 40) := hcells
    have hat := cells_at3 hcells'
    have HCL := Lib.hid hcells'
    clear hcells hcells' hub
    go_simp
    exact Stored.c3 HCL.out _ _ _
  apply seq_sto_agg ⟨20, 23, #[.int .i64 0, .int .i64 0, .int .i64 0], 40⟩ (by simp) rfl (by kernel_rfl) rfl (by kernel_rfl)
  · intro u wx hb hd
    replace hb := hb.nil
    have hz := hb.size
    (try simp only [World.size_alloc, World.size_setCell] at hz)
    have hz0 : w.heap.size < wx.heap.size := by omega
    have hz1 : w.heap.size + 1 < wx.heap.size := by omega
    have hz2 : bb < wx.heap.size := by omega
    obtain ⟨hc, hf⟩ := bcell hb
    clear hb hz
    simp [depsE, Region.binds, updE, kindOf, Prp.is, Prp.any] at hd
    refine ⟨by simp [Region.wanted], fun b' hub hlb hcells => ?_⟩
    have hub' : u 20 = .pointer (some ⟨b', 0, none⟩) := hub
    have hcells' : wx.heap[b']? = some (.cells #[.int .i64 0, .int .i64 0, .int .i64 0] 40) := hcells
    have hat := cells_at3 hcells'
    have HCL := Lib.hid hcells'
    clear hcells hcells' hub
    go_simp
    exact Stored.c3 HCL.out _ _ _
  intro u w5 hb hE hV hP
  replace hb := hb.nil
  clear hP
  have e0 : u 0 = _ := endE_get hE 0 (by decide) (by simp [kindOf])
  have e1 : u 1 = _ := endE_get hE 1 (by decide) (by simp [kindOf])
  have e2 : u 2 = _ := endE_get hE 2 (by decide) (by simp [kindOf])
  have e3 : u 3 = _ := endE_get hE 3 (by decide) (by simp [kindOf])
  have e4 : u 4 = _ := endE_get hE 4 (by decide) (by simp [kindOf])
  have e5 : u 5 = _ := endE_get hE 5 (by decide) (by simp [kindOf])
  have e6 : u 6 = _ := endE_get hE 6 (by decide) (by simp [kindOf])
  have e7 : u 7 = _ := endE_get hE 7 (by decide) (by simp [kindOf])
  have e8 : u 8 = _ := endE_get hE 8 (by decide) (by simp [kindOf])
  have e9 : u 9 = _ := endE_get hE 9 (by decide) (by simp [kindOf])
  have e10 : u 10 = _ := endE_get hE 10 (by decide) (by simp [kindOf])
  have e11 : u 11 = _ := endE_get hE 11 (by decide) (by simp [kindOf])
  have e12 : u 12 = _ := endE_get hE 12 (by decide) (by simp [kindOf])
  have e13 : u 13 = _ := endE_get hE 13 (by decide) (by simp [kindOf])
  have e14 : u 14 = _ := endE_get hE 14 (by decide) (by simp [kindOf])
  have e15 : u 15 = _ := endE_get hE 15 (by decide) (by simp [kindOf])
  have e16 : u 16 = _ := endE_get hE 16 (by decide) (by simp [kindOf])
  have e17 : u 17 = _ := endE_get hE 17 (by decide) (by simp [kindOf])
  have e21 : u 21 = _ := endE_get hE 21 (by decide) (by simp [kindOf])
  have e22 : u 22 = _ := endE_get hE 22 (by decide) (by simp [kindOf])
  have e23 : u 23 = _ := endE_get hE 23 (by decide) (by simp [kindOf])
  obtain ⟨⟨V0, pv0, lv0, qv0⟩, ⟨nq01, nq02, -⟩, ⟨⟨V1, pv1, lv1, qv1⟩, ⟨nq12, -⟩, ⟨⟨V2, pv2, lv2, qv2⟩, -, -⟩⟩⟩ := hV
  replace qv0 : w5.heap[V0]? = some (.cells (u 21).cells 40) := qv0
  rw [e21] at qv0
  replace pv0 : u 18 = .pointer (some ⟨V0, 0, none⟩) := pv0
  obtain ⟨mV00, mV01, mV02, mfV0, msV0⟩ := cells_at3 qv0
  have HQV0 := Lib.hid qv0
  clear qv0
  replace qv1 : w5.heap[V1]? = some (.cells (u 22).cells 40) := qv1
  rw [e22] at qv1
  replace pv1 : u 19 = .pointer (some ⟨V1, 0, none⟩) := pv1
  obtain ⟨mV10, mV11, mV12, mfV1, msV1⟩ := cells_at3 qv1
  have HQV1 := Lib.hid qv1
  clear qv1
  replace qv2 : w5.heap[V2]? = some (.cells (u 23).cells 40) := qv2
  rw [e23] at qv2
  replace pv2 : u 20 = .pointer (some ⟨V2, 0, none⟩) := pv2
  obtain ⟨mV20, mV21, mV22, mfV2, msV2⟩ := cells_at3 qv2
  have HQV2 := Lib.hid qv2
  clear qv2
  have dV0V1 : V0 ≠ V1 := fun e => nq01 (by show u _ = u _; rw [pv0, pv1, e])
  clear nq01
  have dV0V2 : V0 ≠ V2 := fun e => nq02 (by show u _ = u _; rw [pv0, pv2, e])
  clear nq02
  have dV1V2 : V1 ≠ V2 := fun e => nq12 (by show u _ = u _; rw [pv1, pv2, e])
  clear nq12
  (try simp only [World.size_alloc, World.size_setCell] at lv0)
  have dV0w50 : V0 ≠ w.heap.size := by omega
  have dV0w51 : V0 ≠ w.heap.size + 1 := by omega
  have dV0w52 : V0 ≠ bb := by omega
  (try have lbV0 : w.heap.size ≤ V0 := by omega)
  clear lv0
  (try simp only [World.size_alloc, World.size_setCell] at lv1)
  have dV1w50 : V1 ≠ w.heap.size := by omega
  have dV1w51 : V1 ≠ w.heap.size + 1 := by omega
  have dV1w52 : V1 ≠ bb := by omega
  (try have lbV1 : w.heap.size ≤ V1 := by omega)
  clear lv1
  (try simp only [World.size_alloc, World.size_setCell] at lv2)
  have dV2w50 : V2 ≠ w.heap.size := by omega
  have dV2w51 : V2 ≠ w.heap.size + 1 := by omega
  have dV2w52 : V2 ≠ bb := by omega
  (try have lbV2 : w.heap.size ≤ V2 := by omega)
  clear lv2
  simp only [List.drop_succ_cons, List.drop_zero, List.take_succ_cons, List.take_zero, fillL, Act.put, List.setIfInBounds_toArray, List.set_cons_zero, List.set_cons_succ, e0, e1, e2, e3, e4, e5, e6, e7, e8, e9, e10, e11, e12, e13, e14, e15, e16, e17, e21, e22, e23, pv0, pv1, pv2]
  clear e0 e1 e2 e3 e4 e5 e6 e7 e8 e9 e10 e11 e12 e13 e14 e15 e16 e17 e21 e22 e23 pv0 pv1 pv2 hE
  have HBWw5 := Lib.hid hb
  have hw5 := below_step (w := w) (by first | assumption | go_grown) hb
  have hzw5 := hb.size
  (try simp only [World.size_alloc, World.size_setCell] at hzw5)
  have hzw50 : w.heap.size < w5.heap.size := by omega
  have hzw51 : w.heap.size + 1 < w5.heap.size := by omega
  have hzw52 : bb < w5.heap.size := by omega
  have HHw5 := Lib.hid hb.block
  obtain ⟨hcw5, hfw5⟩ := bcell hb
  clear hb hzw5
  go_wp2
  go_returns
  exact ⟨rfl, hw5⟩

set_option maxHeartbeats 2000000 in
theorem rsum_any (x y : Int) (bx by' : Bool) (X Y : Nat → Int) (w : World) (hx : isW x bx X) (hy : isW y by' Y) (hs : ((x + y).natAbs : Int) < 115792089237316195423570985008687907853269984665640564039457584007913129639936) :
    Calls Try.prog 43 #[.agg #[.bool bx, .int .u64 (X 0), .int .u64 (X 1), .int .u64 (X 2), .int .u64 (X 3)], .agg #[.bool by', .int .u64 (Y 0), .int .u64 (Y 1), .int .u64 (Y 2), .int .u64 (Y 3)]] w fun e w' => ∃ Z : Nat → Int, e = .returned (.agg #[.bool (decide (x + y < 0)), .int .u64 (Z 0), .int .u64 (Z 1), .int .u64 (Z 2), .int .u64 (Z 3)]) ∧ isW (x + y) (decide (x + y < 0)) Z ∧ Below w.heap.size w w' := by
  have HX := Lib.hid hx
  have HY := Lib.hid hy
  clear hx hy
  obtain ⟨SG, hSG⟩ : ∃ b, decide (x + y < 0) = b := ⟨_, rfl⟩
  rw [hSG]
  have HSG := Lib.hid hSG
  clear hSG
  go_enter Try.func43, Try.ntmps43
  go_wp2_with fail
  (go_at_call 60; refine (rAdd_any x y bx by' X Y _ HX.out HY.out hs).mono ?_; rintro e_ w1 ⟨Z, rfl, hz, hb⟩)
  have hsw1 := hb.size
  (try simp only [World.size_alloc, World.size_setCell] at hsw1)
  have zzw1 : w.heap.size < w1.heap.size := by omega
  have hPw1 : Below w.heap.size w w1 := below_step (w := w) (by first | exact Below.refl _ _ | go_grown) hb
  have zaw1 : w.heap.size < w1.heap.size := by omega
  have a0w1 : w1.cell? ⟨w.heap.size, 0, none⟩ = some (.bool bx) := (hb.cell (p := ⟨_, _, none⟩) (by simp <;> omega)).trans (by simp [go_sem])
  have a1w1 : w1.cell? ⟨w.heap.size, 1, none⟩ = some (.int .u64 (X 0)) := (hb.cell (p := ⟨_, _, none⟩) (by simp <;> omega)).trans (by simp [go_sem])
  have a2w1 : w1.cell? ⟨w.heap.size, 2, none⟩ = some (.int .u64 (X 1)) := (hb.cell (p := ⟨_, _, none⟩) (by simp <;> omega)).trans (by simp [go_sem])
  have a3w1 : w1.cell? ⟨w.heap.size, 3, none⟩ = some (.int .u64 (X 2)) := (hb.cell (p := ⟨_, _, none⟩) (by simp <;> omega)).trans (by simp [go_sem])
  have a4w1 : w1.cell? ⟨w.heap.size, 4, none⟩ = some (.int .u64 (X 3)) := (hb.cell (p := ⟨_, _, none⟩) (by simp <;> omega)).trans (by simp [go_sem])
  have zbw1 : w.heap.size + 1 < w1.heap.size := by omega
  have b0w1 : w1.cell? ⟨w.heap.size + 1, 0, none⟩ = some (.bool by') := (hb.cell (p := ⟨_, _, none⟩) (by simp <;> omega)).trans (by simp [go_sem])
  have b1w1 : w1.cell? ⟨w.heap.size + 1, 1, none⟩ = some (.int .u64 (Y 0)) := (hb.cell (p := ⟨_, _, none⟩) (by simp <;> omega)).trans (by simp [go_sem])
  have b2w1 : w1.cell? ⟨w.heap.size + 1, 2, none⟩ = some (.int .u64 (Y 1)) := (hb.cell (p := ⟨_, _, none⟩) (by simp <;> omega)).trans (by simp [go_sem])
  have b3w1 : w1.cell? ⟨w.heap.size + 1, 3, none⟩ = some (.int .u64 (Y 2)) := (hb.cell (p := ⟨_, _, none⟩) (by simp <;> omega)).trans (by simp [go_sem])
  have b4w1 : w1.cell? ⟨w.heap.size + 1, 4, none⟩ = some (.int .u64 (Y 3)) := (hb.cell (p := ⟨_, _, none⟩) (by simp <;> omega)).trans (by simp [go_sem])
  have zrw1 : w.heap.size + 1 + 1 < w1.heap.size := by omega
  have r0w1 : w1.cell? ⟨w.heap.size + 1 + 1, 0, none⟩ = some (.bool false) := (hb.cell (p := ⟨_, _, none⟩) (by simp <;> omega)).trans (by simp [go_sem])
  have r1w1 : w1.cell? ⟨w.heap.size + 1 + 1, 1, none⟩ = some (.int .u64 0) := (hb.cell (p := ⟨_, _, none⟩) (by simp <;> omega)).trans (by simp [go_sem])
  have r2w1 : w1.cell? ⟨w.heap.size + 1 + 1, 2, none⟩ = some (.int .u64 0) := (hb.cell (p := ⟨_, _, none⟩) (by simp <;> omega)).trans (by simp [go_sem])
  have r3w1 : w1.cell? ⟨w.heap.size + 1 + 1, 3, none⟩ = some (.int .u64 0) := (hb.cell (p := ⟨_, _, none⟩) (by simp <;> omega)).trans (by simp [go_sem])
  have r4w1 : w1.cell? ⟨w.heap.size + 1 + 1, 4, none⟩ = some (.int .u64 0) := (hb.cell (p := ⟨_, _, none⟩) (by simp <;> omega)).trans (by simp [go_sem])
  have fr0w1 : w1.frozen? ⟨w.heap.size + 1 + 1, 0, none⟩ = false := (hb.frozen (p := ⟨_, _, none⟩) (by simp <;> omega)).trans (by simp [go_sem])
  have fr1w1 : w1.frozen? ⟨w.heap.size + 1 + 1, 1, none⟩ = false := (hb.frozen (p := ⟨_, _, none⟩) (by simp <;> omega)).trans (by simp [go_sem])
  have fr2w1 : w1.frozen? ⟨w.heap.size + 1 + 1, 2, none⟩ = false := (hb.frozen (p := ⟨_, _, none⟩) (by simp <;> omega)).trans (by simp [go_sem])
  have fr3w1 : w1.frozen? ⟨w.heap.size + 1 + 1, 3, none⟩ = false := (hb.frozen (p := ⟨_, _, none⟩) (by simp <;> omega)).trans (by simp [go_sem])
  have fr4w1 : w1.frozen? ⟨w.heap.size + 1 + 1, 4, none⟩ = false := (hb.frozen (p := ⟨_, _, none⟩) (by simp <;> omega)).trans (by simp [go_sem])
  have hBw1 : Below w.heap.size w w1 := below_step (w := w) (by first | assumption | go_grown) hb
  have HZ := Lib.hid hz
  clear hz
  rw [HSG.out]
  clear hb hsw1 hPw1
  go_wp2
  all_goals (refine bodyPost_ret (v := .agg #[.bool SG, .int .u64 (Z 0), .int .u64 (Z 1), .int .u64 (Z 2), .int .u64 (Z 3)]) (by simp (maxDischargeDepth := 9) [results, Try.results43, go_sem, *]) rfl ?_)
  exact ⟨Z, rfl, by have := HZ.out; rwa [HSG.out] at this, by go_grown⟩
end Go.Proofs.Ytpjdmjmgkdgfnaa
