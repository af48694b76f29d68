/-
  The small functions of pipe and of its reference. Conditions: none. By an AI agent.
-/
import Derived.Test.YtgbhhjdmochhpaaGreatDoorSeq
import Derived.Test.YtgbhhjdmochhpaaGreatDoorSlices
import Derived.Test.YtgbhhjdmochhpaaGreatDoorMeet
import Derived.Test.YtgbhhjdmochhpaaGreatDoorNum
import Derived.Outline
namespace Go.Proofs.YtgbhhjdmochhpaaGreatDoor
open Go Go.ChangeShapes Go.WideShapes Go.RowKit Go.ChangeAt
set_option linter.unusedSimpArgs false
set_option linter.unusedVariables false

theorem cells_at {w : World} {b : Nat} {cs : Array Value} {t : TypeId} (h : w.heap[b]? = some (.cells cs t)) : (∀ i v, cs[i]? = some v → w.cell? ⟨b, i, none⟩ = some v) ∧ (∀ i, w.frozen? ⟨b, i, none⟩ = false) ∧ b < w.heap.size := by
  refine ⟨fun i v hv => ?_, fun i => ?_, (Array.getElem?_eq_some_iff.1 h).1⟩
  · rw [cell_of_row w b i cs t (0, 0) h]; exact hv
  · exact frozen_of_row w b i cs t h
theorem cells_at1 {w : World} {b : Nat} {x0 : Value} {t : TypeId} (h : w.heap[b]? = some (.cells #[x0] t)) :
    w.cell? ⟨b, 0, none⟩ = some x0 ∧ (∀ i, w.frozen? ⟨b, i, none⟩ = false) ∧ b < w.heap.size :=
  ⟨(cells_at h).1 0 x0 rfl, (cells_at h).2.1, (cells_at h).2.2⟩
theorem cells_at2 {w : World} {b : Nat} {x0 x1 : Value} {t : TypeId} (h : w.heap[b]? = some (.cells #[x0, x1] t)) :
    w.cell? ⟨b, 0, none⟩ = some x0 ∧ w.cell? ⟨b, 1, none⟩ = some x1 ∧ (∀ i, w.frozen? ⟨b, i, none⟩ = false) ∧ b < w.heap.size :=
  ⟨(cells_at h).1 0 x0 rfl, (cells_at h).1 1 x1 rfl, (cells_at h).2.1, (cells_at h).2.2⟩
theorem cells_at3 {w : World} {b : Nat} {x0 x1 x2 : Value} {t : TypeId} (h : w.heap[b]? = some (.cells #[x0, x1, x2] t)) :
    w.cell? ⟨b, 0, none⟩ = some x0 ∧ w.cell? ⟨b, 1, none⟩ = some x1 ∧ w.cell? ⟨b, 2, none⟩ = some x2 ∧ (∀ i, w.frozen? ⟨b, i, none⟩ = false) ∧ b < w.heap.size :=
  ⟨(cells_at h).1 0 x0 rfl, (cells_at h).1 1 x1 rfl, (cells_at h).1 2 x2 rfl, (cells_at h).2.1, (cells_at h).2.2⟩
theorem cells_at4 {w : World} {b : Nat} {x0 x1 x2 x3 : Value} {t : TypeId} (h : w.heap[b]? = some (.cells #[x0, x1, x2, x3] t)) :
    w.cell? ⟨b, 0, none⟩ = some x0 ∧ w.cell? ⟨b, 1, none⟩ = some x1 ∧ w.cell? ⟨b, 2, none⟩ = some x2 ∧ w.cell? ⟨b, 3, none⟩ = some x3 ∧ (∀ i, w.frozen? ⟨b, i, none⟩ = false) ∧ b < w.heap.size :=
  ⟨(cells_at h).1 0 x0 rfl, (cells_at h).1 1 x1 rfl, (cells_at h).1 2 x2 rfl, (cells_at h).1 3 x3 rfl, (cells_at h).2.1, (cells_at h).2.2⟩
theorem cells_at6 {w : World} {b : Nat} {x0 x1 x2 x3 x4 x5 : Value} {t : TypeId} (h : w.heap[b]? = some (.cells #[x0, x1, x2, x3, x4, x5] t)) :
    w.cell? ⟨b, 0, none⟩ = some x0 ∧ w.cell? ⟨b, 1, none⟩ = some x1 ∧ w.cell? ⟨b, 2, none⟩ = some x2 ∧ w.cell? ⟨b, 3, none⟩ = some x3 ∧ w.cell? ⟨b, 4, none⟩ = some x4 ∧ w.cell? ⟨b, 5, none⟩ = some x5 ∧ (∀ i, w.frozen? ⟨b, i, none⟩ = false) ∧ b < w.heap.size :=
  ⟨(cells_at h).1 0 x0 rfl, (cells_at h).1 1 x1 rfl, (cells_at h).1 2 x2 rfl, (cells_at h).1 3 x3 rfl, (cells_at h).1 4 x4 rfl, (cells_at h).1 5 x5 rfl, (cells_at h).2.1, (cells_at h).2.2⟩
theorem run_mx3 (ts : Array TypeId) (t : TypeId) (x y z : Int) (w : World) : (Builtin.max_ ts t #[.int .i64 x, .int .i64 y, .int .i64 z]).run Tryz.prog w = .ok (.int .i64 (mx (mx x y) z)) w := by
  simp [go_sem, mx]
  try rfl
theorem run_mn3 (ts : Array TypeId) (t : TypeId) (x y z : Int) (w : World) : (Builtin.min_ ts t #[.int .i64 x, .int .i64 y, .int .i64 z]).run Tryz.prog w = .ok (.int .i64 (mn (mn x y) z)) w := by
  simp [go_sem, mn]
  try rfl
/-- a point that is within the limit -/
def In3 (x y z : Int) : Prop := InB 524288 (x, y, z)
instance in3_dec (x y z : Int) : Decidable (In3 x y z) := by unfold In3 InB; exact inferInstance
theorem in3_mx {x y z : Int} : In3 x y z ↔ mx (mx x y) z ≤ 524288 ∧ -524288 ≤ mn (mn x y) z := by
  unfold In3 InB mx mn
  simp only
  constructor
  · rintro ⟨_, _, _, _, _, _⟩
    constructor <;> repeat' split
    all_goals omega
  · rintro ⟨h1, h2⟩
    revert h1 h2
    repeat' split
    all_goals (intros; omega)
def sgn (n : Int) : Int := mn (mx n (-1)) 1
theorem sgn_def (n : Int) : sgn n = if n < 0 then -1 else if n = 0 then 0 else 1 := by
  unfold sgn mn mx
  repeat' split
  all_goals omega
theorem sgn_bd (n : Int) : -1 ≤ sgn n ∧ sgn n ≤ 1 := by rw [sgn_def]; repeat' split <;> omega
set_option maxRecDepth 20000 in
set_option maxHeartbeats 1000000 in
theorem far_no (a b c : Int) (w : World) (h : In3 a b c) :
    Calls Tryz.prog 51 #[.agg #[.int .i64 a, .int .i64 b, .int .i64 c]] w fun e w' => e = .returned (.bool false) ∧ Below w.heap.size w w' := by
  obtain ⟨h1, h2⟩ := in3_mx.1 h
  have k1 : decide (524288 < mx (mx a b) c) = false := decide_eq_false (by omega)
  have k2 : decide (mn (mn a b) c < -524288) = false := decide_eq_false (by omega)
  have hmx := run_mx3
  have hmn := run_mn3
  clear h
  go_enter Tryz.func51, Tryz.ntmps51
  go_wp2
  go_returns
  exact ⟨rfl, by first | assumption | go_grown⟩
set_option maxRecDepth 20000 in
set_option maxHeartbeats 1000000 in
theorem far_yes (a b c : Int) (w : World) (h : ¬ In3 a b c) :
    Calls Tryz.prog 51 #[.agg #[.int .i64 a, .int .i64 b, .int .i64 c]] w fun e w' => e = .returned (.bool true) ∧ Below w.heap.size w w' := by
  have hmx := run_mx3
  have hmn := run_mn3
  by_cases h1 : 524288 < mx (mx a b) c
  · clear h
    have k1 : decide (524288 < mx (mx a b) c) = true := decide_eq_true h1
    go_enter Tryz.func51, Tryz.ntmps51
    go_wp2
    go_returns
    exact ⟨rfl, by first | assumption | go_grown⟩
  · have h2 : mn (mn a b) c < -524288 := by
      apply Classical.byContradiction
      intro hc
      exact h (in3_mx.2 ⟨by omega, by omega⟩)
    clear h
    have k1 : decide (524288 < mx (mx a b) c) = false := decide_eq_false h1
    have k2 : decide (mn (mn a b) c < -524288) = true := decide_eq_true h2
    go_enter Tryz.func51, Tryz.ntmps51
    go_wp2
    go_returns
    exact ⟨rfl, by first | assumption | go_grown⟩
set_option maxRecDepth 20000 in
set_option maxHeartbeats 1000000 in
theorem sign_any (n : Int) (w : World)  :
    Calls Tryz.prog 47 #[.int .i64 n] w fun e w' => e = .returned (.int .i64 (sgn n)) ∧ Below w.heap.size w w' := by
  have hmx := run_mx
  have hmn := run_mn
  go_enter Tryz.func47, Tryz.ntmps47
  go_wp2
  go_returns
  exact ⟨rfl, by first | assumption | go_grown⟩
theorem sub_fits {a b : Int} (ha : -524288 ≤ a ∧ a ≤ 524288) (hb : -524288 ≤ b ∧ b ≤ 524288) : -1048576 ≤ a - b ∧ a - b ≤ 1048576 := by omega
theorem Sub_in {a b c x y z : Int} (w : World) (h : In3 a b c) (h2 : In3 x y z) :
    Calls Tryz.prog 46 #[.agg #[.int .i64 a, .int .i64 b, .int .i64 c], .agg #[.int .i64 x, .int .i64 y, .int .i64 z]] w fun e w' => e = .returned (.agg #[.int .i64 (a - x), .int .i64 (b - y), .int .i64 (c - z)]) ∧ Below w.heap.size w w' := by
  have := Sub_any a b c x y z w
  rw [show subF (a, b, c) (x, y, z) = (a - x, b - y, c - z) from (if_pos ⟨inB_mono h (by decide), inB_mono h2 (by decide)⟩).trans (by unfold addV negV; simp only [Int.sub_eq_add_neg])] at this
  exact this
theorem rSub_in {a b c x y z : Int} (w : World) (h : In3 a b c) (h2 : In3 x y z) :
    Calls Tryz.prog 61 #[.agg #[.int .i64 a, .int .i64 b, .int .i64 c], .agg #[.int .i64 x, .int .i64 y, .int .i64 z]] w fun e w' => e = .returned (.agg #[.int .i64 (a - x), .int .i64 (b - y), .int .i64 (c - z)]) ∧ Below w.heap.size w w' := by
  have := rSub_any a b c x y z w
  rw [show subF (a, b, c) (x, y, z) = (a - x, b - y, c - z) from (if_pos ⟨inB_mono h (by decide), inB_mono h2 (by decide)⟩).trans (by unfold addV negV; simp only [Int.sub_eq_add_neg])] at this
  exact this
theorem in_small {x y z : Int} (hx : -1 ≤ x ∧ x ≤ 1) (hy : -1 ≤ y ∧ y ≤ 1) (hz : -1 ≤ z ∧ z ≤ 1) : In3 x y z := by unfold In3 InB; simp only; omega
set_option maxRecDepth 20000 in
set_option maxHeartbeats 1000000 in
theorem popposite_in (x y z : Int) (w : World) (h : In3 x y z) :
    Calls Tryz.prog 52 #[.agg #[.int .i64 x, .int .i64 y, .int .i64 z]] w fun e w' => e = .returned (.agg #[.int .i64 (0 - x), .int .i64 (0 - y), .int .i64 (0 - z)]) ∧ Below w.heap.size w w' := by
  go_enter Tryz.func52, Tryz.ntmps52
  go_wp2_with fail
  (go_at_call 46; refine (Sub_in (a := 0) (b := 0) (c := 0) _ (in_small (by omega) (by omega) (by omega)) h).mono ?_; rintro e w1 ⟨rfl, hb⟩)
  have hB1 := below_step (w := w) (by first | assumption | go_grown) hb
  have hz1 := hb.size
  (try simp only [World.size_alloc, World.size_setCell] at hz1)
  have hz1a : w.heap.size < w1.heap.size := by omega
  have hz1b : w.heap.size + 1 < w1.heap.size := by omega
  have HH1 := Lib.hid hb.block
  obtain ⟨hc1, hf1⟩ := bcell hb
  clear hb hz1
  go_wp2
  all_goals (refine bodyPost_ret (v := .agg #[.int .i64 (0 - x), .int .i64 (0 - y), .int .i64 (0 - z)]) (by simp [results, Tryz.results52, go_sem, *]) rfl ?_)
  all_goals (exact ⟨rfl, by first | assumption | go_grown⟩)
theorem sq_bd {n : Int} (h : -1 ≤ n ∧ n ≤ 1) : 0 ≤ n * n ∧ n * n ≤ 1 := by
  rcases (by omega : n = -1 ∨ n = 0 ∨ n = 1) with rfl | rfl | rfl <;> decide
/-- one of three is 1 or -1, the others 0 -/
def isAxis (x y z : Int) : Bool := sgn x * sgn x + sgn y * sgn y + sgn z * sgn z == 1
set_option maxRecDepth 20000 in
set_option maxHeartbeats 4000000 in
theorem direction_in (a b c x y z : Int) (w : World) (h : In3 a b c) (h2 : In3 x y z) :
    Calls Tryz.prog 16 #[.agg #[.int .i64 a, .int .i64 b, .int .i64 c], .agg #[.int .i64 x, .int .i64 y, .int .i64 z]] w fun e w' => e = .returned (.tuple #[.agg #[.int .i64 (sgn (x - a)), .int .i64 (sgn (y - b)), .int .i64 (sgn (z - c))], .bool (isAxis (x - a) (y - b) (z - c))]) ∧ Below w.heap.size w w' := by
  unfold isAxis
  go_enter Tryz.func16, Tryz.ntmps16
  go_wp2_with fail
  (go_at_call 46; refine (Sub_in _ h2 h).mono ?_; rintro e w1 ⟨rfl, hb⟩)
  have hB1 := below_step (w := w) (by first | assumption | go_grown) hb
  have hz1 := hb.size
  (try simp only [World.size_alloc, World.size_setCell] at hz1)
  have hz1a : w.heap.size < w1.heap.size := by omega
  have hz1b : w.heap.size + 1 < w1.heap.size := by omega
  have hz1c : w.heap.size + 1 + 1 < w1.heap.size := by omega
  have HH1 := Lib.hid hb.block
  obtain ⟨hc1, hf1⟩ := bcell hb
  clear hb hz1
  go_wp2_with fail
  refine wp_region_seq 12 [⟨10, 11, #[.int .i64 0, .int .i64 0, .int .i64 0], 39⟩] [] (by kernel_rfl) (by kernel_rfl) (by kernel_rfl) (by kernel_rfl) (by kernel_rfl) ?_ ?_ ?_
  · intro r hr; cases hr
  · intro r hr; cases hr
  simp only [List.take_succ_cons, List.take_zero, fillL, Act.put, List.setIfInBounds_toArray, List.set_cons_zero, List.set_cons_succ]
  apply seq_is (by kernel_rfl)
  · intro u wx hb hd
    replace hb := hb.nil
    have hz := hb.size
    (try simp only [World.size_alloc, World.size_setCell] at hz)
    have hz0 : w.heap.size < wx.heap.size := by omega
    have hz1 : w.heap.size + 1 < wx.heap.size := by omega
    have hz2 : w.heap.size + 1 + 1 < wx.heap.size := by omega
    have hz3 : w1.heap.size < wx.heap.size := by omega
    obtain ⟨hc, hf⟩ := bcell hb
    clear hb hz
    simp [depsE, Region.binds, updE, kindOf, Prp.is, Prp.any] at hd
    go_simp
    exact ⟨Below.refl _ _, rfl⟩
  apply seq_is (by kernel_rfl)
  · intro u wx hb hd
    replace hb := hb.nil
    have hz := hb.size
    (try simp only [World.size_alloc, World.size_setCell] at hz)
    have hz0 : w.heap.size < wx.heap.size := by omega
    have hz1 : w.heap.size + 1 < wx.heap.size := by omega
    have hz2 : w.heap.size + 1 + 1 < wx.heap.size := by omega
    have hz3 : w1.heap.size < wx.heap.size := by omega
    obtain ⟨hc, hf⟩ := bcell hb
    clear hb hz
    simp [depsE, Region.binds, updE, kindOf, Prp.is, Prp.any] at hd
    go_simp
    exact ⟨Below.refl _ _, rfl⟩
  apply seq_is (by kernel_rfl)
  · intro u wx hb hd
    replace hb := hb.nil
    have hz := hb.size
    (try simp only [World.size_alloc, World.size_setCell] at hz)
    have hz0 : w.heap.size < wx.heap.size := by omega
    have hz1 : w.heap.size + 1 < wx.heap.size := by omega
    have hz2 : w.heap.size + 1 + 1 < wx.heap.size := by omega
    have hz3 : w1.heap.size < wx.heap.size := by omega
    obtain ⟨hc, hf⟩ := bcell hb
    clear hb hz
    simp [depsE, Region.binds, updE, kindOf, Prp.is, Prp.any] at hd
    go_simp
    (go_at_call 47; refine (sign_any _ _).mono ?_; rintro e w1 ⟨rfl, hb1⟩; first | exact ⟨rfl, hb1⟩ | exact ⟨_, rfl, hb1, rfl⟩)
  apply seq_is (by kernel_rfl)
  · intro u wx hb hd
    replace hb := hb.nil
    have hz := hb.size
    (try simp only [World.size_alloc, World.size_setCell] at hz)
    have hz0 : w.heap.size < wx.heap.size := by omega
    have hz1 : w.heap.size + 1 < wx.heap.size := by omega
    have hz2 : w.heap.size + 1 + 1 < wx.heap.size := by omega
    have hz3 : w1.heap.size < wx.heap.size := by omega
    obtain ⟨hc, hf⟩ := bcell hb
    clear hb hz
    simp [depsE, Region.binds, updE, kindOf, Prp.is, Prp.any] at hd
    go_simp
    exact ⟨Below.refl _ _, rfl⟩
  apply seq_is (by kernel_rfl)
  · intro u wx hb hd
    replace hb := hb.nil
    have hz := hb.size
    (try simp only [World.size_alloc, World.size_setCell] at hz)
    have hz0 : w.heap.size < wx.heap.size := by omega
    have hz1 : w.heap.size + 1 < wx.heap.size := by omega
    have hz2 : w.heap.size + 1 + 1 < wx.heap.size := by omega
    have hz3 : w1.heap.size < wx.heap.size := by omega
    obtain ⟨hc, hf⟩ := bcell hb
    clear hb hz
    simp [depsE, Region.binds, updE, kindOf, Prp.is, Prp.any] at hd
    go_simp
    exact ⟨Below.refl _ _, rfl⟩
  apply seq_is (by kernel_rfl)
  · intro u wx hb hd
    replace hb := hb.nil
    have hz := hb.size
    (try simp only [World.size_alloc, World.size_setCell] at hz)
    have hz0 : w.heap.size < wx.heap.size := by omega
    have hz1 : w.heap.size + 1 < wx.heap.size := by omega
    have hz2 : w.heap.size + 1 + 1 < wx.heap.size := by omega
    have hz3 : w1.heap.size < wx.heap.size := by omega
    obtain ⟨hc, hf⟩ := bcell hb
    clear hb hz
    simp [depsE, Region.binds, updE, kindOf, Prp.is, Prp.any] at hd
    go_simp
    (go_at_call 47; refine (sign_any _ _).mono ?_; rintro e w1 ⟨rfl, hb1⟩; first | exact ⟨rfl, hb1⟩ | exact ⟨_, rfl, hb1, rfl⟩)
  apply seq_is (by kernel_rfl)
  · intro u wx hb hd
    replace hb := hb.nil
    have hz := hb.size
    (try simp only [World.size_alloc, World.size_setCell] at hz)
    have hz0 : w.heap.size < wx.heap.size := by omega
    have hz1 : w.heap.size + 1 < wx.heap.size := by omega
    have hz2 : w.heap.size + 1 + 1 < wx.heap.size := by omega
    have hz3 : w1.heap.size < wx.heap.size := by omega
    obtain ⟨hc, hf⟩ := bcell hb
    clear hb hz
    simp [depsE, Region.binds, updE, kindOf, Prp.is, Prp.any] at hd
    go_simp
    exact ⟨Below.refl _ _, rfl⟩
  apply seq_is (by kernel_rfl)
  · intro u wx hb hd
    replace hb := hb.nil
    have hz := hb.size
    (try simp only [World.size_alloc, World.size_setCell] at hz)
    have hz0 : w.heap.size < wx.heap.size := by omega
    have hz1 : w.heap.size + 1 < wx.heap.size := by omega
    have hz2 : w.heap.size + 1 + 1 < wx.heap.size := by omega
    have hz3 : w1.heap.size < wx.heap.size := by omega
    obtain ⟨hc, hf⟩ := bcell hb
    clear hb hz
    simp [depsE, Region.binds, updE, kindOf, Prp.is, Prp.any] at hd
    go_simp
    exact ⟨Below.refl _ _, rfl⟩
  apply seq_is (by kernel_rfl)
  · intro u wx hb hd
    replace hb := hb.nil
    have hz := hb.size
    (try simp only [World.size_alloc, World.size_setCell] at hz)
    have hz0 : w.heap.size < wx.heap.size := by omega
    have hz1 : w.heap.size + 1 < wx.heap.size := by omega
    have hz2 : w.heap.size + 1 + 1 < wx.heap.size := by omega
    have hz3 : w1.heap.size < wx.heap.size := by omega
    obtain ⟨hc, hf⟩ := bcell hb
    clear hb hz
    simp [depsE, Region.binds, updE, kindOf, Prp.is, Prp.any] at hd
    go_simp
    (go_at_call 47; refine (sign_any _ _).mono ?_; rintro e w1 ⟨rfl, hb1⟩; first | exact ⟨rfl, hb1⟩ | exact ⟨_, rfl, hb1, rfl⟩)
  apply seq_is (by kernel_rfl)
  · intro u wx hb hd
    replace hb := hb.nil
    have hz := hb.size
    (try simp only [World.size_alloc, World.size_setCell] at hz)
    have hz0 : w.heap.size < wx.heap.size := by omega
    have hz1 : w.heap.size + 1 < wx.heap.size := by omega
    have hz2 : w.heap.size + 1 + 1 < wx.heap.size := by omega
    have hz3 : w1.heap.size < wx.heap.size := by omega
    obtain ⟨hc, hf⟩ := bcell hb
    clear hb hz
    simp [depsE, Region.binds, updE, kindOf, Prp.is, Prp.any] at hd
    go_simp
    exact ⟨Below.refl _ _, rfl⟩
  refine seq_var ⟨10, 11, #[.int .i64 0, .int .i64 0, .int .i64 0], 39⟩ (by simp) rfl ?_ ?_
  · intro u wx hb
    refine ⟨by simp [Region.wanted], ?_⟩
    go_simp
    first | done | rfl | exact ⟨rfl, rfl⟩
  apply seq_sto_agg ⟨10, 11, #[.int .i64 0, .int .i64 0, .int .i64 0], 39⟩ (by simp) rfl (by kernel_rfl) rfl (by kernel_rfl)
  · intro u wx hb hd
    replace hb := hb.nil
    have hz := hb.size
    (try simp only [World.size_alloc, World.size_setCell] at hz)
    have hz0 : w.heap.size < wx.heap.size := by omega
    have hz1 : w.heap.size + 1 < wx.heap.size := by omega
    have hz2 : w.heap.size + 1 + 1 < wx.heap.size := by omega
    have hz3 : w1.heap.size < wx.heap.size := by omega
    obtain ⟨hc, hf⟩ := bcell hb
    clear hb hz
    simp [depsE, Region.binds, updE, kindOf, Prp.is, Prp.any] at hd
    refine ⟨by simp [Region.wanted], fun b' hub hlb hcells => ?_⟩
    have hub' : u 10 = .pointer (some ⟨b', 0, none⟩) := hub
    have hcells' : wx.heap[b']? = some (.cells #[.int .i64 0, .int .i64 0, .int .i64 0] 39) := hcells
    have hat := cells_at3 hcells'
    have HCL := Lib.hid hcells'
    clear hcells hcells' hub
    go_simp
    exact Stored.c3 HCL.out _ _ _
  intro u w5 hb hE hV hP
  replace hb := hb.nil
  clear hP
  have e0 : u 0 = _ := endE_get hE 0 (by decide) (by simp [kindOf])
  have e1 : u 1 = _ := endE_get hE 1 (by decide) (by simp [kindOf])
  have e2 : u 2 = _ := endE_get hE 2 (by decide) (by simp [kindOf])
  have e3 : u 3 = _ := endE_get hE 3 (by decide) (by simp [kindOf])
  have e4 : u 4 = _ := endE_get hE 4 (by decide) (by simp [kindOf])
  have e5 : u 5 = _ := endE_get hE 5 (by decide) (by simp [kindOf])
  have e6 : u 6 = _ := endE_get hE 6 (by decide) (by simp [kindOf])
  have e7 : u 7 = _ := endE_get hE 7 (by decide) (by simp [kindOf])
  have e8 : u 8 = _ := endE_get hE 8 (by decide) (by simp [kindOf])
  have e9 : u 9 = _ := endE_get hE 9 (by decide) (by simp [kindOf])
  have e11 : u 11 = _ := endE_get hE 11 (by decide) (by simp [kindOf])
  obtain ⟨⟨V0, pv0, lv0, qv0⟩, -, -⟩ := hV
  replace qv0 : w5.heap[V0]? = some (.cells (u 11).cells 39) := qv0
  rw [e11] at qv0
  replace pv0 : u 10 = .pointer (some ⟨V0, 0, none⟩) := pv0
  obtain ⟨mV00, mV01, mV02, mfV0, msV0⟩ := cells_at3 qv0
  have HQV0 := Lib.hid qv0
  clear qv0
  (try simp only [World.size_alloc, World.size_setCell] at lv0)
  have dV0w50 : V0 ≠ w.heap.size := by omega
  have dV0w51 : V0 ≠ w.heap.size + 1 := by omega
  have dV0w52 : V0 ≠ w.heap.size + 1 + 1 := by omega
  have dV0w53 : V0 ≠ w1.heap.size := by omega
  clear lv0
  simp only [List.drop_succ_cons, List.drop_zero, List.take_succ_cons, List.take_zero, fillL, Act.put, List.setIfInBounds_toArray, List.set_cons_zero, List.set_cons_succ, e0, e1, e2, e3, e4, e5, e6, e7, e8, e9, e11, pv0]
  clear e0 e1 e2 e3 e4 e5 e6 e7 e8 e9 e11 pv0 hE
  have hw5 := below_step (w := w) (by first | assumption | go_grown) hb
  have hzw5 := hb.size
  (try simp only [World.size_alloc, World.size_setCell] at hzw5)
  have hzw50 : w.heap.size < w5.heap.size := by omega
  have hzw51 : w.heap.size + 1 < w5.heap.size := by omega
  have hzw52 : w.heap.size + 1 + 1 < w5.heap.size := by omega
  have hzw53 : w1.heap.size < w5.heap.size := by omega
  have HHw5 := Lib.hid hb.block
  obtain ⟨hcw5, hfw5⟩ := bcell hb
  clear hb hzw5
  have s0 := sgn_bd (x - a)
  have s1 := sgn_bd (y - b)
  have s2 := sgn_bd (z - c)
  have m0 : 0 ≤ (sgn (x - a)) * (sgn (x - a)) ∧ (sgn (x - a)) * (sgn (x - a)) ≤ 1 := sq_bd s0
  have m1 : 0 ≤ (sgn (y - b)) * (sgn (y - b)) ∧ (sgn (y - b)) * (sgn (y - b)) ≤ 1 := sq_bd s1
  have m2 : 0 ≤ (sgn (z - c)) * (sgn (z - c)) ∧ (sgn (z - c)) * (sgn (z - c)) ≤ 1 := sq_bd s2
  obtain ⟨m00, m01⟩ := m0
  obtain ⟨m10, m11⟩ := m1
  obtain ⟨m20, m21⟩ := m2
  clear s0 s1 s2
  have v0 : IntKind.i64.wrap ((sgn (x - a)) * (sgn (x - a))) = (sgn (x - a)) * (sgn (x - a)) := IntWalk.i64_in _ (by omega)
  have v1 : IntKind.i64.wrap ((sgn (y - b)) * (sgn (y - b))) = (sgn (y - b)) * (sgn (y - b)) := IntWalk.i64_in _ (by omega)
  have v2 : IntKind.i64.wrap ((sgn (z - c)) * (sgn (z - c))) = (sgn (z - c)) * (sgn (z - c)) := IntWalk.i64_in _ (by omega)
  have v3 : IntKind.i64.wrap ((sgn (x - a)) * (sgn (x - a)) + (sgn (y - b)) * (sgn (y - b))) = (sgn (x - a)) * (sgn (x - a)) + (sgn (y - b)) * (sgn (y - b)) := IntWalk.i64_in _ (by omega)
  have v4 : IntKind.i64.wrap ((sgn (x - a)) * (sgn (x - a)) + (sgn (y - b)) * (sgn (y - b)) + (sgn (z - c)) * (sgn (z - c))) = (sgn (x - a)) * (sgn (x - a)) + (sgn (y - b)) * (sgn (y - b)) + (sgn (z - c)) * (sgn (z - c)) := IntWalk.i64_in _ (by omega)
  go_wp2_with fail
  refine wp_region_seq 21 [] [⟨w.heap.size + 1 + 1, 19, #[.int .i64 0, .int .i64 0, .int .i64 0], 39⟩] (by kernel_rfl) (by kernel_rfl) (by kernel_rfl) (by kernel_rfl) (by kernel_rfl) ?_ ?_ ?_
  · intro r hr
    simp only [List.mem_singleton] at hr
    subst hr
    have x0 := HH1.out
    have x1 := HHw5.out
    refine ⟨by show w.heap.size + 1 + 1 < _; first | omega | (simp <;> omega), ?_⟩
    show _[w.heap.size + 1 + 1]? = _
    first | assumption | (simp (disch := (first | omega | (simp only [World.size_alloc, World.size_setCell] <;> omega))) only [x0, x1, heapA_at, heapA_old, heapS_same, heapS_other, setObj, Option.map_some]; done)
  · intro r hr s hs h
    simp only [List.mem_singleton] at hr hs
    subst hr hs
    exact absurd rfl h
  simp only [List.take_succ_cons, List.take_zero, fillL, Act.put, List.setIfInBounds_toArray, List.set_cons_zero, List.set_cons_succ]
  apply seq_is (by kernel_rfl)
  · intro u wx hb hd
    have hz := hb.size
    (try simp only [World.size_alloc, World.size_setCell] at hz)
    have hz0 : w.heap.size < wx.heap.size := by omega
    have hz1 : w.heap.size + 1 < wx.heap.size := by omega
    have hz2 : w.heap.size + 1 + 1 < wx.heap.size := by omega
    have hz3 : w1.heap.size < wx.heap.size := by omega
    have hz4 : V0 < wx.heap.size := by omega
    obtain ⟨kc0, kf0⟩ := hb.cell (w.heap.size) (by first | omega | (simp <;> omega)) (by intro r hr; simp only [List.mem_singleton] at hr; subst hr; show w.heap.size + 1 + 1 ≠ w.heap.size; omega)
    obtain ⟨kc1, kf1⟩ := hb.cell (w.heap.size + 1) (by first | omega | (simp <;> omega)) (by intro r hr; simp only [List.mem_singleton] at hr; subst hr; show w.heap.size + 1 + 1 ≠ w.heap.size + 1; omega)
    obtain ⟨kc3, kf3⟩ := hb.cell (w1.heap.size) (by first | omega | (simp <;> omega)) (by intro r hr; simp only [List.mem_singleton] at hr; subst hr; show w.heap.size + 1 + 1 ≠ w1.heap.size; omega)
    obtain ⟨kc4, kf4⟩ := hb.cell (V0) (by first | omega | (simp <;> omega)) (by intro r hr; simp only [List.mem_singleton] at hr; subst hr; show w.heap.size + 1 + 1 ≠ V0; omega)
    clear hb hz
    simp [depsE, Region.binds, updE, kindOf, Prp.is, Prp.any] at hd
    go_simp
    exact ⟨Below.refl _ _, rfl⟩
  apply seq_is (by kernel_rfl)
  · intro u wx hb hd
    have hz := hb.size
    (try simp only [World.size_alloc, World.size_setCell] at hz)
    have hz0 : w.heap.size < wx.heap.size := by omega
    have hz1 : w.heap.size + 1 < wx.heap.size := by omega
    have hz2 : w.heap.size + 1 + 1 < wx.heap.size := by omega
    have hz3 : w1.heap.size < wx.heap.size := by omega
    have hz4 : V0 < wx.heap.size := by omega
    obtain ⟨kc0, kf0⟩ := hb.cell (w.heap.size) (by first | omega | (simp <;> omega)) (by intro r hr; simp only [List.mem_singleton] at hr; subst hr; show w.heap.size + 1 + 1 ≠ w.heap.size; omega)
    obtain ⟨kc1, kf1⟩ := hb.cell (w.heap.size + 1) (by first | omega | (simp <;> omega)) (by intro r hr; simp only [List.mem_singleton] at hr; subst hr; show w.heap.size + 1 + 1 ≠ w.heap.size + 1; omega)
    obtain ⟨kc3, kf3⟩ := hb.cell (w1.heap.size) (by first | omega | (simp <;> omega)) (by intro r hr; simp only [List.mem_singleton] at hr; subst hr; show w.heap.size + 1 + 1 ≠ w1.heap.size; omega)
    obtain ⟨kc4, kf4⟩ := hb.cell (V0) (by first | omega | (simp <;> omega)) (by intro r hr; simp only [List.mem_singleton] at hr; subst hr; show w.heap.size + 1 + 1 ≠ V0; omega)
    clear hb hz
    simp [depsE, Region.binds, updE, kindOf, Prp.is, Prp.any] at hd
    go_simp
    exact ⟨Below.refl _ _, rfl⟩
  apply seq_is (by kernel_rfl)
  · intro u wx hb hd
    have hz := hb.size
    (try simp only [World.size_alloc, World.size_setCell] at hz)
    have hz0 : w.heap.size < wx.heap.size := by omega
    have hz1 : w.heap.size + 1 < wx.heap.size := by omega
    have hz2 : w.heap.size + 1 + 1 < wx.heap.size := by omega
    have hz3 : w1.heap.size < wx.heap.size := by omega
    have hz4 : V0 < wx.heap.size := by omega
    obtain ⟨kc0, kf0⟩ := hb.cell (w.heap.size) (by first | omega | (simp <;> omega)) (by intro r hr; simp only [List.mem_singleton] at hr; subst hr; show w.heap.size + 1 + 1 ≠ w.heap.size; omega)
    obtain ⟨kc1, kf1⟩ := hb.cell (w.heap.size + 1) (by first | omega | (simp <;> omega)) (by intro r hr; simp only [List.mem_singleton] at hr; subst hr; show w.heap.size + 1 + 1 ≠ w.heap.size + 1; omega)
    obtain ⟨kc3, kf3⟩ := hb.cell (w1.heap.size) (by first | omega | (simp <;> omega)) (by intro r hr; simp only [List.mem_singleton] at hr; subst hr; show w.heap.size + 1 + 1 ≠ w1.heap.size; omega)
    obtain ⟨kc4, kf4⟩ := hb.cell (V0) (by first | omega | (simp <;> omega)) (by intro r hr; simp only [List.mem_singleton] at hr; subst hr; show w.heap.size + 1 + 1 ≠ V0; omega)
    clear hb hz
    simp [depsE, Region.binds, updE, kindOf, Prp.is, Prp.any] at hd
    go_simp
    exact ⟨Below.refl _ _, rfl⟩
  apply seq_is (by kernel_rfl)
  · intro u wx hb hd
    have hz := hb.size
    (try simp only [World.size_alloc, World.size_setCell] at hz)
    have hz0 : w.heap.size < wx.heap.size := by omega
    have hz1 : w.heap.size + 1 < wx.heap.size := by omega
    have hz2 : w.heap.size + 1 + 1 < wx.heap.size := by omega
    have hz3 : w1.heap.size < wx.heap.size := by omega
    have hz4 : V0 < wx.heap.size := by omega
    obtain ⟨kc0, kf0⟩ := hb.cell (w.heap.size) (by first | omega | (simp <;> omega)) (by intro r hr; simp only [List.mem_singleton] at hr; subst hr; show w.heap.size + 1 + 1 ≠ w.heap.size; omega)
    obtain ⟨kc1, kf1⟩ := hb.cell (w.heap.size + 1) (by first | omega | (simp <;> omega)) (by intro r hr; simp only [List.mem_singleton] at hr; subst hr; show w.heap.size + 1 + 1 ≠ w.heap.size + 1; omega)
    obtain ⟨kc3, kf3⟩ := hb.cell (w1.heap.size) (by first | omega | (simp <;> omega)) (by intro r hr; simp only [List.mem_singleton] at hr; subst hr; show w.heap.size + 1 + 1 ≠ w1.heap.size; omega)
    obtain ⟨kc4, kf4⟩ := hb.cell (V0) (by first | omega | (simp <;> omega)) (by intro r hr; simp only [List.mem_singleton] at hr; subst hr; show w.heap.size + 1 + 1 ≠ V0; omega)
    clear hb hz
    simp [depsE, Region.binds, updE, kindOf, Prp.is, Prp.any] at hd
    go_simp
    exact ⟨Below.refl _ _, rfl⟩
  apply seq_is (by kernel_rfl)
  · intro u wx hb hd
    have hz := hb.size
    (try simp only [World.size_alloc, World.size_setCell] at hz)
    have hz0 : w.heap.size < wx.heap.size := by omega
    have hz1 : w.heap.size + 1 < wx.heap.size := by omega
    have hz2 : w.heap.size + 1 + 1 < wx.heap.size := by omega
    have hz3 : w1.heap.size < wx.heap.size := by omega
    have hz4 : V0 < wx.heap.size := by omega
    obtain ⟨kc0, kf0⟩ := hb.cell (w.heap.size) (by first | omega | (simp <;> omega)) (by intro r hr; simp only [List.mem_singleton] at hr; subst hr; show w.heap.size + 1 + 1 ≠ w.heap.size; omega)
    obtain ⟨kc1, kf1⟩ := hb.cell (w.heap.size + 1) (by first | omega | (simp <;> omega)) (by intro r hr; simp only [List.mem_singleton] at hr; subst hr; show w.heap.size + 1 + 1 ≠ w.heap.size + 1; omega)
    obtain ⟨kc3, kf3⟩ := hb.cell (w1.heap.size) (by first | omega | (simp <;> omega)) (by intro r hr; simp only [List.mem_singleton] at hr; subst hr; show w.heap.size + 1 + 1 ≠ w1.heap.size; omega)
    obtain ⟨kc4, kf4⟩ := hb.cell (V0) (by first | omega | (simp <;> omega)) (by intro r hr; simp only [List.mem_singleton] at hr; subst hr; show w.heap.size + 1 + 1 ≠ V0; omega)
    clear hb hz
    simp [depsE, Region.binds, updE, kindOf, Prp.is, Prp.any] at hd
    go_simp
    exact ⟨Below.refl _ _, rfl⟩
  apply seq_is (by kernel_rfl)
  · intro u wx hb hd
    have hz := hb.size
    (try simp only [World.size_alloc, World.size_setCell] at hz)
    have hz0 : w.heap.size < wx.heap.size := by omega
    have hz1 : w.heap.size + 1 < wx.heap.size := by omega
    have hz2 : w.heap.size + 1 + 1 < wx.heap.size := by omega
    have hz3 : w1.heap.size < wx.heap.size := by omega
    have hz4 : V0 < wx.heap.size := by omega
    obtain ⟨kc0, kf0⟩ := hb.cell (w.heap.size) (by first | omega | (simp <;> omega)) (by intro r hr; simp only [List.mem_singleton] at hr; subst hr; show w.heap.size + 1 + 1 ≠ w.heap.size; omega)
    obtain ⟨kc1, kf1⟩ := hb.cell (w.heap.size + 1) (by first | omega | (simp <;> omega)) (by intro r hr; simp only [List.mem_singleton] at hr; subst hr; show w.heap.size + 1 + 1 ≠ w.heap.size + 1; omega)
    obtain ⟨kc3, kf3⟩ := hb.cell (w1.heap.size) (by first | omega | (simp <;> omega)) (by intro r hr; simp only [List.mem_singleton] at hr; subst hr; show w.heap.size + 1 + 1 ≠ w1.heap.size; omega)
    obtain ⟨kc4, kf4⟩ := hb.cell (V0) (by first | omega | (simp <;> omega)) (by intro r hr; simp only [List.mem_singleton] at hr; subst hr; show w.heap.size + 1 + 1 ≠ V0; omega)
    clear hb hz
    simp [depsE, Region.binds, updE, kindOf, Prp.is, Prp.any] at hd
    go_simp
    exact ⟨Below.refl _ _, rfl⟩
  apply seq_is (by kernel_rfl)
  · intro u wx hb hd
    have hz := hb.size
    (try simp only [World.size_alloc, World.size_setCell] at hz)
    have hz0 : w.heap.size < wx.heap.size := by omega
    have hz1 : w.heap.size + 1 < wx.heap.size := by omega
    have hz2 : w.heap.size + 1 + 1 < wx.heap.size := by omega
    have hz3 : w1.heap.size < wx.heap.size := by omega
    have hz4 : V0 < wx.heap.size := by omega
    obtain ⟨kc0, kf0⟩ := hb.cell (w.heap.size) (by first | omega | (simp <;> omega)) (by intro r hr; simp only [List.mem_singleton] at hr; subst hr; show w.heap.size + 1 + 1 ≠ w.heap.size; omega)
    obtain ⟨kc1, kf1⟩ := hb.cell (w.heap.size + 1) (by first | omega | (simp <;> omega)) (by intro r hr; simp only [List.mem_singleton] at hr; subst hr; show w.heap.size + 1 + 1 ≠ w.heap.size + 1; omega)
    obtain ⟨kc3, kf3⟩ := hb.cell (w1.heap.size) (by first | omega | (simp <;> omega)) (by intro r hr; simp only [List.mem_singleton] at hr; subst hr; show w.heap.size + 1 + 1 ≠ w1.heap.size; omega)
    obtain ⟨kc4, kf4⟩ := hb.cell (V0) (by first | omega | (simp <;> omega)) (by intro r hr; simp only [List.mem_singleton] at hr; subst hr; show w.heap.size + 1 + 1 ≠ V0; omega)
    clear hb hz
    simp [depsE, Region.binds, updE, kindOf, Prp.is, Prp.any] at hd
    go_simp
    exact ⟨Below.refl _ _, rfl⟩
  apply seq_is (by kernel_rfl)
  · intro u wx hb hd
    have hz := hb.size
    (try simp only [World.size_alloc, World.size_setCell] at hz)
    have hz0 : w.heap.size < wx.heap.size := by omega
    have hz1 : w.heap.size + 1 < wx.heap.size := by omega
    have hz2 : w.heap.size + 1 + 1 < wx.heap.size := by omega
    have hz3 : w1.heap.size < wx.heap.size := by omega
    have hz4 : V0 < wx.heap.size := by omega
    obtain ⟨kc0, kf0⟩ := hb.cell (w.heap.size) (by first | omega | (simp <;> omega)) (by intro r hr; simp only [List.mem_singleton] at hr; subst hr; show w.heap.size + 1 + 1 ≠ w.heap.size; omega)
    obtain ⟨kc1, kf1⟩ := hb.cell (w.heap.size + 1) (by first | omega | (simp <;> omega)) (by intro r hr; simp only [List.mem_singleton] at hr; subst hr; show w.heap.size + 1 + 1 ≠ w.heap.size + 1; omega)
    obtain ⟨kc3, kf3⟩ := hb.cell (w1.heap.size) (by first | omega | (simp <;> omega)) (by intro r hr; simp only [List.mem_singleton] at hr; subst hr; show w.heap.size + 1 + 1 ≠ w1.heap.size; omega)
    obtain ⟨kc4, kf4⟩ := hb.cell (V0) (by first | omega | (simp <;> omega)) (by intro r hr; simp only [List.mem_singleton] at hr; subst hr; show w.heap.size + 1 + 1 ≠ V0; omega)
    clear hb hz
    simp [depsE, Region.binds, updE, kindOf, Prp.is, Prp.any] at hd
    go_simp
    exact ⟨Below.refl _ _, rfl⟩
  apply seq_is (by kernel_rfl)
  · intro u wx hb hd
    have hz := hb.size
    (try simp only [World.size_alloc, World.size_setCell] at hz)
    have hz0 : w.heap.size < wx.heap.size := by omega
    have hz1 : w.heap.size + 1 < wx.heap.size := by omega
    have hz2 : w.heap.size + 1 + 1 < wx.heap.size := by omega
    have hz3 : w1.heap.size < wx.heap.size := by omega
    have hz4 : V0 < wx.heap.size := by omega
    obtain ⟨kc0, kf0⟩ := hb.cell (w.heap.size) (by first | omega | (simp <;> omega)) (by intro r hr; simp only [List.mem_singleton] at hr; subst hr; show w.heap.size + 1 + 1 ≠ w.heap.size; omega)
    obtain ⟨kc1, kf1⟩ := hb.cell (w.heap.size + 1) (by first | omega | (simp <;> omega)) (by intro r hr; simp only [List.mem_singleton] at hr; subst hr; show w.heap.size + 1 + 1 ≠ w.heap.size + 1; omega)
    obtain ⟨kc3, kf3⟩ := hb.cell (w1.heap.size) (by first | omega | (simp <;> omega)) (by intro r hr; simp only [List.mem_singleton] at hr; subst hr; show w.heap.size + 1 + 1 ≠ w1.heap.size; omega)
    obtain ⟨kc4, kf4⟩ := hb.cell (V0) (by first | omega | (simp <;> omega)) (by intro r hr; simp only [List.mem_singleton] at hr; subst hr; show w.heap.size + 1 + 1 ≠ V0; omega)
    clear hb hz
    simp [depsE, Region.binds, updE, kindOf, Prp.is, Prp.any] at hd
    go_simp
    exact ⟨Below.refl _ _, rfl⟩
  apply seq_is (by kernel_rfl)
  · intro u wx hb hd
    have hz := hb.size
    (try simp only [World.size_alloc, World.size_setCell] at hz)
    have hz0 : w.heap.size < wx.heap.size := by omega
    have hz1 : w.heap.size + 1 < wx.heap.size := by omega
    have hz2 : w.heap.size + 1 + 1 < wx.heap.size := by omega
    have hz3 : w1.heap.size < wx.heap.size := by omega
    have hz4 : V0 < wx.heap.size := by omega
    obtain ⟨kc0, kf0⟩ := hb.cell (w.heap.size) (by first | omega | (simp <;> omega)) (by intro r hr; simp only [List.mem_singleton] at hr; subst hr; show w.heap.size + 1 + 1 ≠ w.heap.size; omega)
    obtain ⟨kc1, kf1⟩ := hb.cell (w.heap.size + 1) (by first | omega | (simp <;> omega)) (by intro r hr; simp only [List.mem_singleton] at hr; subst hr; show w.heap.size + 1 + 1 ≠ w.heap.size + 1; omega)
    obtain ⟨kc3, kf3⟩ := hb.cell (w1.heap.size) (by first | omega | (simp <;> omega)) (by intro r hr; simp only [List.mem_singleton] at hr; subst hr; show w.heap.size + 1 + 1 ≠ w1.heap.size; omega)
    obtain ⟨kc4, kf4⟩ := hb.cell (V0) (by first | omega | (simp <;> omega)) (by intro r hr; simp only [List.mem_singleton] at hr; subst hr; show w.heap.size + 1 + 1 ≠ V0; omega)
    clear hb hz
    simp [depsE, Region.binds, updE, kindOf, Prp.is, Prp.any] at hd
    go_simp
    exact ⟨Below.refl _ _, rfl⟩
  apply seq_is (by kernel_rfl)
  · intro u wx hb hd
    have hz := hb.size
    (try simp only [World.size_alloc, World.size_setCell] at hz)
    have hz0 : w.heap.size < wx.heap.size := by omega
    have hz1 : w.heap.size + 1 < wx.heap.size := by omega
    have hz2 : w.heap.size + 1 + 1 < wx.heap.size := by omega
    have hz3 : w1.heap.size < wx.heap.size := by omega
    have hz4 : V0 < wx.heap.size := by omega
    obtain ⟨kc0, kf0⟩ := hb.cell (w.heap.size) (by first | omega | (simp <;> omega)) (by intro r hr; simp only [List.mem_singleton] at hr; subst hr; show w.heap.size + 1 + 1 ≠ w.heap.size; omega)
    obtain ⟨kc1, kf1⟩ := hb.cell (w.heap.size + 1) (by first | omega | (simp <;> omega)) (by intro r hr; simp only [List.mem_singleton] at hr; subst hr; show w.heap.size + 1 + 1 ≠ w.heap.size + 1; omega)
    obtain ⟨kc3, kf3⟩ := hb.cell (w1.heap.size) (by first | omega | (simp <;> omega)) (by intro r hr; simp only [List.mem_singleton] at hr; subst hr; show w.heap.size + 1 + 1 ≠ w1.heap.size; omega)
    obtain ⟨kc4, kf4⟩ := hb.cell (V0) (by first | omega | (simp <;> omega)) (by intro r hr; simp only [List.mem_singleton] at hr; subst hr; show w.heap.size + 1 + 1 ≠ V0; omega)
    clear hb hz
    simp [depsE, Region.binds, updE, kindOf, Prp.is, Prp.any] at hd
    go_simp
    exact ⟨Below.refl _ _, rfl⟩
  apply seq_is (by kernel_rfl)
  · intro u wx hb hd
    have hz := hb.size
    (try simp only [World.size_alloc, World.size_setCell] at hz)
    have hz0 : w.heap.size < wx.heap.size := by omega
    have hz1 : w.heap.size + 1 < wx.heap.size := by omega
    have hz2 : w.heap.size + 1 + 1 < wx.heap.size := by omega
    have hz3 : w1.heap.size < wx.heap.size := by omega
    have hz4 : V0 < wx.heap.size := by omega
    obtain ⟨kc0, kf0⟩ := hb.cell (w.heap.size) (by first | omega | (simp <;> omega)) (by intro r hr; simp only [List.mem_singleton] at hr; subst hr; show w.heap.size + 1 + 1 ≠ w.heap.size; omega)
    obtain ⟨kc1, kf1⟩ := hb.cell (w.heap.size + 1) (by first | omega | (simp <;> omega)) (by intro r hr; simp only [List.mem_singleton] at hr; subst hr; show w.heap.size + 1 + 1 ≠ w.heap.size + 1; omega)
    obtain ⟨kc3, kf3⟩ := hb.cell (w1.heap.size) (by first | omega | (simp <;> omega)) (by intro r hr; simp only [List.mem_singleton] at hr; subst hr; show w.heap.size + 1 + 1 ≠ w1.heap.size; omega)
    obtain ⟨kc4, kf4⟩ := hb.cell (V0) (by first | omega | (simp <;> omega)) (by intro r hr; simp only [List.mem_singleton] at hr; subst hr; show w.heap.size + 1 + 1 ≠ V0; omega)
    clear hb hz
    simp [depsE, Region.binds, updE, kindOf, Prp.is, Prp.any] at hd
    go_simp
    exact ⟨Below.refl _ _, rfl⟩
  apply seq_is (by kernel_rfl)
  · intro u wx hb hd
    have hz := hb.size
    (try simp only [World.size_alloc, World.size_setCell] at hz)
    have hz0 : w.heap.size < wx.heap.size := by omega
    have hz1 : w.heap.size + 1 < wx.heap.size := by omega
    have hz2 : w.heap.size + 1 + 1 < wx.heap.size := by omega
    have hz3 : w1.heap.size < wx.heap.size := by omega
    have hz4 : V0 < wx.heap.size := by omega
    obtain ⟨kc0, kf0⟩ := hb.cell (w.heap.size) (by first | omega | (simp <;> omega)) (by intro r hr; simp only [List.mem_singleton] at hr; subst hr; show w.heap.size + 1 + 1 ≠ w.heap.size; omega)
    obtain ⟨kc1, kf1⟩ := hb.cell (w.heap.size + 1) (by first | omega | (simp <;> omega)) (by intro r hr; simp only [List.mem_singleton] at hr; subst hr; show w.heap.size + 1 + 1 ≠ w.heap.size + 1; omega)
    obtain ⟨kc3, kf3⟩ := hb.cell (w1.heap.size) (by first | omega | (simp <;> omega)) (by intro r hr; simp only [List.mem_singleton] at hr; subst hr; show w.heap.size + 1 + 1 ≠ w1.heap.size; omega)
    obtain ⟨kc4, kf4⟩ := hb.cell (V0) (by first | omega | (simp <;> omega)) (by intro r hr; simp only [List.mem_singleton] at hr; subst hr; show w.heap.size + 1 + 1 ≠ V0; omega)
    clear hb hz
    simp [depsE, Region.binds, updE, kindOf, Prp.is, Prp.any] at hd
    go_simp
    exact ⟨Below.refl _ _, rfl⟩
  apply seq_is (by kernel_rfl)
  · intro u wx hb hd
    have hz := hb.size
    (try simp only [World.size_alloc, World.size_setCell] at hz)
    have hz0 : w.heap.size < wx.heap.size := by omega
    have hz1 : w.heap.size + 1 < wx.heap.size := by omega
    have hz2 : w.heap.size + 1 + 1 < wx.heap.size := by omega
    have hz3 : w1.heap.size < wx.heap.size := by omega
    have hz4 : V0 < wx.heap.size := by omega
    obtain ⟨kc0, kf0⟩ := hb.cell (w.heap.size) (by first | omega | (simp <;> omega)) (by intro r hr; simp only [List.mem_singleton] at hr; subst hr; show w.heap.size + 1 + 1 ≠ w.heap.size; omega)
    obtain ⟨kc1, kf1⟩ := hb.cell (w.heap.size + 1) (by first | omega | (simp <;> omega)) (by intro r hr; simp only [List.mem_singleton] at hr; subst hr; show w.heap.size + 1 + 1 ≠ w.heap.size + 1; omega)
    obtain ⟨kc3, kf3⟩ := hb.cell (w1.heap.size) (by first | omega | (simp <;> omega)) (by intro r hr; simp only [List.mem_singleton] at hr; subst hr; show w.heap.size + 1 + 1 ≠ w1.heap.size; omega)
    obtain ⟨kc4, kf4⟩ := hb.cell (V0) (by first | omega | (simp <;> omega)) (by intro r hr; simp only [List.mem_singleton] at hr; subst hr; show w.heap.size + 1 + 1 ≠ V0; omega)
    clear hb hz
    simp [depsE, Region.binds, updE, kindOf, Prp.is, Prp.any] at hd
    go_simp
    exact ⟨Below.refl _ _, rfl⟩
  apply seq_is (by kernel_rfl)
  · intro u wx hb hd
    have hz := hb.size
    (try simp only [World.size_alloc, World.size_setCell] at hz)
    have hz0 : w.heap.size < wx.heap.size := by omega
    have hz1 : w.heap.size + 1 < wx.heap.size := by omega
    have hz2 : w.heap.size + 1 + 1 < wx.heap.size := by omega
    have hz3 : w1.heap.size < wx.heap.size := by omega
    have hz4 : V0 < wx.heap.size := by omega
    obtain ⟨kc0, kf0⟩ := hb.cell (w.heap.size) (by first | omega | (simp <;> omega)) (by intro r hr; simp only [List.mem_singleton] at hr; subst hr; show w.heap.size + 1 + 1 ≠ w.heap.size; omega)
    obtain ⟨kc1, kf1⟩ := hb.cell (w.heap.size + 1) (by first | omega | (simp <;> omega)) (by intro r hr; simp only [List.mem_singleton] at hr; subst hr; show w.heap.size + 1 + 1 ≠ w.heap.size + 1; omega)
    obtain ⟨kc3, kf3⟩ := hb.cell (w1.heap.size) (by first | omega | (simp <;> omega)) (by intro r hr; simp only [List.mem_singleton] at hr; subst hr; show w.heap.size + 1 + 1 ≠ w1.heap.size; omega)
    obtain ⟨kc4, kf4⟩ := hb.cell (V0) (by first | omega | (simp <;> omega)) (by intro r hr; simp only [List.mem_singleton] at hr; subst hr; show w.heap.size + 1 + 1 ≠ V0; omega)
    clear hb hz
    simp [depsE, Region.binds, updE, kindOf, Prp.is, Prp.any] at hd
    go_simp
    exact ⟨Below.refl _ _, rfl⟩
  apply seq_is (by kernel_rfl)
  · intro u wx hb hd
    have hz := hb.size
    (try simp only [World.size_alloc, World.size_setCell] at hz)
    have hz0 : w.heap.size < wx.heap.size := by omega
    have hz1 : w.heap.size + 1 < wx.heap.size := by omega
    have hz2 : w.heap.size + 1 + 1 < wx.heap.size := by omega
    have hz3 : w1.heap.size < wx.heap.size := by omega
    have hz4 : V0 < wx.heap.size := by omega
    obtain ⟨kc0, kf0⟩ := hb.cell (w.heap.size) (by first | omega | (simp <;> omega)) (by intro r hr; simp only [List.mem_singleton] at hr; subst hr; show w.heap.size + 1 + 1 ≠ w.heap.size; omega)
    obtain ⟨kc1, kf1⟩ := hb.cell (w.heap.size + 1) (by first | omega | (simp <;> omega)) (by intro r hr; simp only [List.mem_singleton] at hr; subst hr; show w.heap.size + 1 + 1 ≠ w.heap.size + 1; omega)
    obtain ⟨kc3, kf3⟩ := hb.cell (w1.heap.size) (by first | omega | (simp <;> omega)) (by intro r hr; simp only [List.mem_singleton] at hr; subst hr; show w.heap.size + 1 + 1 ≠ w1.heap.size; omega)
    obtain ⟨kc4, kf4⟩ := hb.cell (V0) (by first | omega | (simp <;> omega)) (by intro r hr; simp only [List.mem_singleton] at hr; subst hr; show w.heap.size + 1 + 1 ≠ V0; omega)
    clear hb hz
    simp [depsE, Region.binds, updE, kindOf, Prp.is, Prp.any] at hd
    go_simp
    exact ⟨Below.refl _ _, rfl⟩
  apply seq_is (by kernel_rfl)
  · intro u wx hb hd
    have hz := hb.size
    (try simp only [World.size_alloc, World.size_setCell] at hz)
    have hz0 : w.heap.size < wx.heap.size := by omega
    have hz1 : w.heap.size + 1 < wx.heap.size := by omega
    have hz2 : w.heap.size + 1 + 1 < wx.heap.size := by omega
    have hz3 : w1.heap.size < wx.heap.size := by omega
    have hz4 : V0 < wx.heap.size := by omega
    obtain ⟨kc0, kf0⟩ := hb.cell (w.heap.size) (by first | omega | (simp <;> omega)) (by intro r hr; simp only [List.mem_singleton] at hr; subst hr; show w.heap.size + 1 + 1 ≠ w.heap.size; omega)
    obtain ⟨kc1, kf1⟩ := hb.cell (w.heap.size + 1) (by first | omega | (simp <;> omega)) (by intro r hr; simp only [List.mem_singleton] at hr; subst hr; show w.heap.size + 1 + 1 ≠ w.heap.size + 1; omega)
    obtain ⟨kc3, kf3⟩ := hb.cell (w1.heap.size) (by first | omega | (simp <;> omega)) (by intro r hr; simp only [List.mem_singleton] at hr; subst hr; show w.heap.size + 1 + 1 ≠ w1.heap.size; omega)
    obtain ⟨kc4, kf4⟩ := hb.cell (V0) (by first | omega | (simp <;> omega)) (by intro r hr; simp only [List.mem_singleton] at hr; subst hr; show w.heap.size + 1 + 1 ≠ V0; omega)
    clear hb hz
    simp [depsE, Region.binds, updE, kindOf, Prp.is, Prp.any] at hd
    go_simp
    exact ⟨Below.refl _ _, rfl⟩
  apply seq_is (by kernel_rfl)
  · intro u wx hb hd
    have hz := hb.size
    (try simp only [World.size_alloc, World.size_setCell] at hz)
    have hz0 : w.heap.size < wx.heap.size := by omega
    have hz1 : w.heap.size + 1 < wx.heap.size := by omega
    have hz2 : w.heap.size + 1 + 1 < wx.heap.size := by omega
    have hz3 : w1.heap.size < wx.heap.size := by omega
    have hz4 : V0 < wx.heap.size := by omega
    obtain ⟨kc0, kf0⟩ := hb.cell (w.heap.size) (by first | omega | (simp <;> omega)) (by intro r hr; simp only [List.mem_singleton] at hr; subst hr; show w.heap.size + 1 + 1 ≠ w.heap.size; omega)
    obtain ⟨kc1, kf1⟩ := hb.cell (w.heap.size + 1) (by first | omega | (simp <;> omega)) (by intro r hr; simp only [List.mem_singleton] at hr; subst hr; show w.heap.size + 1 + 1 ≠ w.heap.size + 1; omega)
    obtain ⟨kc3, kf3⟩ := hb.cell (w1.heap.size) (by first | omega | (simp <;> omega)) (by intro r hr; simp only [List.mem_singleton] at hr; subst hr; show w.heap.size + 1 + 1 ≠ w1.heap.size; omega)
    obtain ⟨kc4, kf4⟩ := hb.cell (V0) (by first | omega | (simp <;> omega)) (by intro r hr; simp only [List.mem_singleton] at hr; subst hr; show w.heap.size + 1 + 1 ≠ V0; omega)
    clear hb hz
    simp [depsE, Region.binds, updE, kindOf, Prp.is, Prp.any] at hd
    go_simp
    exact ⟨Below.refl _ _, rfl⟩
  apply seq_is (by kernel_rfl)
  · intro u wx hb hd
    have hz := hb.size
    (try simp only [World.size_alloc, World.size_setCell] at hz)
    have hz0 : w.heap.size < wx.heap.size := by omega
    have hz1 : w.heap.size + 1 < wx.heap.size := by omega
    have hz2 : w.heap.size + 1 + 1 < wx.heap.size := by omega
    have hz3 : w1.heap.size < wx.heap.size := by omega
    have hz4 : V0 < wx.heap.size := by omega
    obtain ⟨kc0, kf0⟩ := hb.cell (w.heap.size) (by first | omega | (simp <;> omega)) (by intro r hr; simp only [List.mem_singleton] at hr; subst hr; show w.heap.size + 1 + 1 ≠ w.heap.size; omega)
    obtain ⟨kc1, kf1⟩ := hb.cell (w.heap.size + 1) (by first | omega | (simp <;> omega)) (by intro r hr; simp only [List.mem_singleton] at hr; subst hr; show w.heap.size + 1 + 1 ≠ w.heap.size + 1; omega)
    obtain ⟨kc3, kf3⟩ := hb.cell (w1.heap.size) (by first | omega | (simp <;> omega)) (by intro r hr; simp only [List.mem_singleton] at hr; subst hr; show w.heap.size + 1 + 1 ≠ w1.heap.size; omega)
    obtain ⟨kc4, kf4⟩ := hb.cell (V0) (by first | omega | (simp <;> omega)) (by intro r hr; simp only [List.mem_singleton] at hr; subst hr; show w.heap.size + 1 + 1 ≠ V0; omega)
    clear hb hz
    simp [depsE, Region.binds, updE, kindOf, Prp.is, Prp.any] at hd
    go_simp
    exact ⟨Below.refl _ _, rfl⟩
  apply seq_pre_agg ⟨w.heap.size + 1 + 1, 19, #[.int .i64 0, .int .i64 0, .int .i64 0], 39⟩ (by simp) rfl (by kernel_rfl) rfl
  · intro u wx hb hd
    have hz := hb.size
    (try simp only [World.size_alloc, World.size_setCell] at hz)
    have hz0 : w.heap.size < wx.heap.size := by omega
    have hz1 : w.heap.size + 1 < wx.heap.size := by omega
    have hz2 : w.heap.size + 1 + 1 < wx.heap.size := by omega
    have hz3 : w1.heap.size < wx.heap.size := by omega
    have hz4 : V0 < wx.heap.size := by omega
    obtain ⟨kc0, kf0⟩ := hb.cell (w.heap.size) (by first | omega | (simp <;> omega)) (by intro r hr; simp only [List.mem_singleton] at hr; subst hr; show w.heap.size + 1 + 1 ≠ w.heap.size; omega)
    obtain ⟨kc1, kf1⟩ := hb.cell (w.heap.size + 1) (by first | omega | (simp <;> omega)) (by intro r hr; simp only [List.mem_singleton] at hr; subst hr; show w.heap.size + 1 + 1 ≠ w.heap.size + 1; omega)
    obtain ⟨kc3, kf3⟩ := hb.cell (w1.heap.size) (by first | omega | (simp <;> omega)) (by intro r hr; simp only [List.mem_singleton] at hr; subst hr; show w.heap.size + 1 + 1 ≠ w1.heap.size; omega)
    obtain ⟨kc4, kf4⟩ := hb.cell (V0) (by first | omega | (simp <;> omega)) (by intro r hr; simp only [List.mem_singleton] at hr; subst hr; show w.heap.size + 1 + 1 ≠ V0; omega)
    clear hb hz
    simp [depsE, Region.binds, updE, kindOf, Prp.is, Prp.any] at hd
    refine ⟨by simp [Region.wanted], fun hcells => ?_⟩
    have hcells' : wx.heap[w.heap.size + 1 + 1]? = some (.cells #[.int .i64 0, .int .i64 0, .int .i64 0] 39) := hcells
    have hat := cells_at3 hcells'
    have HCL := Lib.hid hcells'
    clear hcells hcells'
    go_simp
    exact Stored.c3 HCL.out _ _ _
  apply seq_is (by kernel_rfl)
  · intro u wx hb hd
    have hz := hb.size
    (try simp only [World.size_alloc, World.size_setCell] at hz)
    have hz0 : w.heap.size < wx.heap.size := by omega
    have hz1 : w.heap.size + 1 < wx.heap.size := by omega
    have hz2 : w.heap.size + 1 + 1 < wx.heap.size := by omega
    have hz3 : w1.heap.size < wx.heap.size := by omega
    have hz4 : V0 < wx.heap.size := by omega
    obtain ⟨kc0, kf0⟩ := hb.cell (w.heap.size) (by first | omega | (simp <;> omega)) (by intro r hr; simp only [List.mem_singleton] at hr; subst hr; show w.heap.size + 1 + 1 ≠ w.heap.size; omega)
    obtain ⟨kc1, kf1⟩ := hb.cell (w.heap.size + 1) (by first | omega | (simp <;> omega)) (by intro r hr; simp only [List.mem_singleton] at hr; subst hr; show w.heap.size + 1 + 1 ≠ w.heap.size + 1; omega)
    obtain ⟨kc3, kf3⟩ := hb.cell (w1.heap.size) (by first | omega | (simp <;> omega)) (by intro r hr; simp only [List.mem_singleton] at hr; subst hr; show w.heap.size + 1 + 1 ≠ w1.heap.size; omega)
    obtain ⟨kc4, kf4⟩ := hb.cell (V0) (by first | omega | (simp <;> omega)) (by intro r hr; simp only [List.mem_singleton] at hr; subst hr; show w.heap.size + 1 + 1 ≠ V0; omega)
    clear hb hz
    simp [depsE, Region.binds, updE, kindOf, Prp.is, Prp.any] at hd
    go_simp
    exact ⟨Below.refl _ _, rfl⟩
  intro u w6 hb hE hV hP
  have e0 : u 0 = _ := endE_get hE 0 (by decide) (by simp [kindOf])
  have e1 : u 1 = _ := endE_get hE 1 (by decide) (by simp [kindOf])
  have e2 : u 2 = _ := endE_get hE 2 (by decide) (by simp [kindOf])
  have e3 : u 3 = _ := endE_get hE 3 (by decide) (by simp [kindOf])
  have e4 : u 4 = _ := endE_get hE 4 (by decide) (by simp [kindOf])
  have e5 : u 5 = _ := endE_get hE 5 (by decide) (by simp [kindOf])
  have e6 : u 6 = _ := endE_get hE 6 (by decide) (by simp [kindOf])
  have e7 : u 7 = _ := endE_get hE 7 (by decide) (by simp [kindOf])
  have e8 : u 8 = _ := endE_get hE 8 (by decide) (by simp [kindOf])
  have e9 : u 9 = _ := endE_get hE 9 (by decide) (by simp [kindOf])
  have e10 : u 10 = _ := endE_get hE 10 (by decide) (by simp [kindOf])
  have e11 : u 11 = _ := endE_get hE 11 (by decide) (by simp [kindOf])
  have e12 : u 12 = _ := endE_get hE 12 (by decide) (by simp [kindOf])
  have e13 : u 13 = _ := endE_get hE 13 (by decide) (by simp [kindOf])
  have e14 : u 14 = _ := endE_get hE 14 (by decide) (by simp [kindOf])
  have e15 : u 15 = _ := endE_get hE 15 (by decide) (by simp [kindOf])
  have e16 : u 16 = _ := endE_get hE 16 (by decide) (by simp [kindOf])
  have e17 : u 17 = _ := endE_get hE 17 (by decide) (by simp [kindOf])
  have e18 : u 18 = _ := endE_get hE 18 (by decide) (by simp [kindOf])
  have e19 : u 19 = _ := endE_get hE 19 (by decide) (by simp [kindOf])
  have e20 : u 20 = _ := endE_get hE 20 (by decide) (by simp [kindOf])
  clear hV
  have qp : w6.heap[w.heap.size + 1 + 1]? = some (.cells (u 19).cells 39) := hP.1
  rw [e19] at qp
  obtain ⟨mpw60, mpw61, mpw62, mpfw6, mpsw6⟩ := cells_at3 qp
  have HPw6 := Lib.hid qp
  clear qp hP
  simp only [List.drop_succ_cons, List.drop_zero, List.take_succ_cons, List.take_zero, fillL, Act.put, List.setIfInBounds_toArray, List.set_cons_zero, List.set_cons_succ, e0, e1, e2, e3, e4, e5, e6, e7, e8, e9, e10, e11, e12, e13, e14, e15, e16, e17, e18, e19, e20]
  clear e0 e1 e2 e3 e4 e5 e6 e7 e8 e9 e10 e11 e12 e13 e14 e15 e16 e17 e18 e19 e20 hE
  have hw6 : Below w.heap.size w w6 := Below.trans (by first | assumption | go_grown) (hb.below (B := w.heap.size) (by first | omega | (simp <;> omega)) (by intro r hr; simp only [List.mem_singleton] at hr; subst hr; show w.heap.size ≤ w.heap.size + 1 + 1; omega))
  have hzw6 := hb.size
  (try simp only [World.size_alloc, World.size_setCell] at hzw6)
  have hzw60 : w.heap.size < w6.heap.size := by omega
  have hzw61 : w.heap.size + 1 < w6.heap.size := by omega
  have hzw62 : w.heap.size + 1 + 1 < w6.heap.size := by omega
  have hzw63 : w1.heap.size < w6.heap.size := by omega
  have hzw64 : V0 < w6.heap.size := by omega
  obtain ⟨hcw60, hfw60⟩ := hb.cell (w.heap.size) (by first | omega | (simp <;> omega)) (by intro r hr; simp only [List.mem_singleton] at hr; subst hr; show w.heap.size + 1 + 1 ≠ w.heap.size; omega)
  obtain ⟨hcw61, hfw61⟩ := hb.cell (w.heap.size + 1) (by first | omega | (simp <;> omega)) (by intro r hr; simp only [List.mem_singleton] at hr; subst hr; show w.heap.size + 1 + 1 ≠ w.heap.size + 1; omega)
  obtain ⟨hcw63, hfw63⟩ := hb.cell (w1.heap.size) (by first | omega | (simp <;> omega)) (by intro r hr; simp only [List.mem_singleton] at hr; subst hr; show w.heap.size + 1 + 1 ≠ w1.heap.size; omega)
  obtain ⟨hcw64, hfw64⟩ := hb.cell (V0) (by first | omega | (simp <;> omega)) (by intro r hr; simp only [List.mem_singleton] at hr; subst hr; show w.heap.size + 1 + 1 ≠ V0; omega)
  clear hb hzw6
  go_wp2
  all_goals (refine bodyPost_ret (v := .tuple #[.agg #[.int .i64 (sgn (x - a)), .int .i64 (sgn (y - b)), .int .i64 (sgn (z - c))], .bool (sgn (x - a) * sgn (x - a) + sgn (y - b) * sgn (y - b) + sgn (z - c) * sgn (z - c) == 1)]) (by simp [results, Tryz.results16, go_sem, *]) rfl ?_)
  all_goals (exact ⟨rfl, by first | assumption | go_grown⟩)
end Go.Proofs.YtgbhhjdmochhpaaGreatDoor
