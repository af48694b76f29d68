/-
  What Load and Reach return, the program's and the reference's, by walks. Conditions: none. By an AI agent.
-/
import Derived.Test.YtbfbifogamlepaaDoorCraneB
namespace Go.Proofs.YtbfbifogamlepaaDoor
open Go.RowKit
set_option linter.unusedSimpArgs false

/-- the first index at which p says true; m more to look at -/
def firstFrom (p : Nat → Bool) : Nat → Nat → Nat
  | 0, j => j
  | m + 1, j => if p j = true then j else firstFrom p m (j + 1)
theorem firstFrom_spec (p : Nat → Bool) : ∀ m j, j ≤ firstFrom p m j ∧ firstFrom p m j ≤ j + m ∧ (firstFrom p m j < j + m → p (firstFrom p m j) = true) ∧ ∀ i, j ≤ i → i < firstFrom p m j → p i = false
  | 0, j => ⟨Nat.le_refl _, Nat.le_refl _, fun h => absurd h (by simp [firstFrom]), fun i h1 h2 => by simp [firstFrom] at h2; omega⟩
  | m + 1, j => by
    unfold firstFrom
    split
    · rename_i h; exact ⟨Nat.le_refl _, by omega, fun _ => h, fun i h1 h2 => by omega⟩
    · rename_i h
      obtain ⟨h1, h2, h3, h4⟩ := firstFrom_spec p m (j + 1)
      refine ⟨by omega, by omega, fun hl => h3 (by omega), fun i hi hl => ?_⟩
      by_cases hij : i = j
      · subst hij; simpa using h
      · exact h4 i (by omega) hl
theorem firstFrom_hit {p : Nat → Bool} {n j : Nat} (hl : j < n) (h : p j = true) : firstFrom p (n - j) j = j := by
  rw [show n - j = (n - j - 1) + 1 by omega, firstFrom, if_pos h]
theorem firstFrom_miss {p : Nat → Bool} {n j : Nat} (hl : j < n) (h : p j = false) : firstFrom p (n - j) j = firstFrom p (n - (j + 1)) (j + 1) := by
  rw [show n - j = (n - (j + 1)) + 1 by omega, firstFrom, if_neg (by rw [h]; decide)]
theorem firstFrom_end {p : Nat → Bool} {n j : Nat} (hj : j ≤ n) (hl : ¬ j < n) : firstFrom p (n - j) j = n := by
  rw [show n - j = 0 by omega, firstFrom]; omega
def loadF (n : Nat) (r q : Nat → Int) (x : Int) : Int := if x < 0 then 0 else
  let k := firstFrom (fun i => decide (x ≤ r i)) n 0
  if k < n then q k else 0
def mx (x y : Int) : Int := if y > x then y else x
def mn (x y : Int) : Int := if y < x then y else x
theorem run_mx (ts : Array TypeId) (t : TypeId) (x y : Int) (w : World) : (Builtin.max_ ts t #[.int .i64 x, .int .i64 y]).run Tryd.prog w = .ok (.int .i64 (mx x y)) w := by
  simp [go_sem, mx]
theorem run_mn (ts : Array TypeId) (t : TypeId) (x y : Int) (w : World) : (Builtin.min_ ts t #[.int .i64 x, .int .i64 y]).run Tryd.prog w = .ok (.int .i64 (mn x y)) w := by
  simp [go_sem, mn]
def reachTo (r q : Nat → Int) (x : Int) : Nat → Int
  | 0 => -1
  | m + 1 => if x ≤ q m then mx (reachTo r q x m) (r m) else reachTo r q x m
def fewB (n : Nat) (nm : Nat → ByteArray) (rn : Nat → Nat) : Bool := decide (firstFrom (fun i => decide (200 < (nm i).size) || decide (30 < rn i)) n 0 < n) == false && decide (n ≤ 20)
set_option maxHeartbeats 4000000 in
theorem load_any (v : Value) (s : ByteArray) (n : Nat) (r q : Nat → Int) (x : Int) (w : World) (h : PairsAt w v n r q) :
    Calls Tryd.prog 11 #[.agg #[.string s, v], .int .i64 x] w fun e w' => e = .returned (.int .i64 (loadF n r q x)) ∧ Below w.heap.size w w' := by
  obtain ⟨oa, cap, rfl, hn, hel⟩ := h.form
  have HEL := Lib.hid hel
  clear h hel
  by_cases hx : x < 0
  · have E : loadF n r q x = 0 := if_pos hx
    rw [E]
    clear E
    go_enter Tryd.func11, Tryd.ntmps11
    go_wp2
    go_returns
    exact ⟨rfl, by go_grown⟩
  have hxp : 0 ≤ x := by omega
  have E : loadF n r q x = (if firstFrom (fun i => decide (x ≤ r i)) n 0 < n then q (firstFrom (fun i => decide (x ≤ r i)) n 0) else 0) := if_neg hx
  rw [E]
  obtain ⟨F, hR⟩ : ∃ F, firstFrom (fun i => decide (x ≤ r i)) n 0 = F := ⟨_, rfl⟩
  have HR := Lib.hid hR
  rw [hR]
  obtain ⟨R, hR2⟩ : ∃ R, (if F < n then q F else 0) = R := ⟨_, rfl⟩
  have HR2 := Lib.hid hR2
  rw [hR2]
  clear E hR hx hR2
  go_enter Tryd.func11, Tryd.ntmps11
  go_wp2
  go_loopw [12] (fun i wr => ∃ j : Nat, j ≤ n ∧ i = .int .i64 j ∧ Hid (firstFrom (fun i => decide (x ≤ r i)) (n - j) j = F) ∧ Below (w.alloc (.cells #[.string s, .slice oa n cap] 39)).heap.size (w.alloc (.cells #[.string s, .slice oa n cap] 39)) wr) (fun i _ => n - (intOf i).toNat)
  case atStart => exact ⟨0, by omega, rfl, HR.out, Below.refl _ _⟩
  case round =>
    obtain ⟨j, hj, rfl, hq, hb⟩ := hrel
    have hW : w.heap.size < wr.heap.size := by have := hb.size; simp at this; omega
    have cB : wr.cell? ⟨w.heap.size, 1, none⟩ = some (.slice oa n cap) := (hb.cell (p := ⟨_, _, none⟩) (by simp)).trans (by simp [go_sem])
    by_cases hlt : j < n
    · obtain ⟨b, off, rfl, hbl, hcl⟩ := HEL.out j hlt
      have c0 : wr.cell? ⟨b, off + j * 2, none⟩ = some (.int .i64 (r j)) := ((hb.cell (p := ⟨_, _, none⟩) (by simp; omega)).trans (World.cell?_alloc_lt _ _ _ hbl)).trans (hcl j hlt).1
      have c1 : wr.cell? ⟨b, off + j * 2 + 1, none⟩ = some (.int .i64 (q j)) := ((hb.cell (p := ⟨_, _, none⟩) (by simp; omega)).trans (World.cell?_alloc_lt _ _ _ hbl)).trans (hcl j hlt).2
      have hbr : b < wr.heap.size := by omega
      have HBr := Lib.hid hb
      have hsz : w.heap.size ≤ wr.heap.size := by omega
      clear hcl hb
      by_cases hx : x ≤ r j
      · have hF : F = j := hq.out.symm.trans (firstFrom_hit hlt (decide_eq_true hx))
        have hr : R = q j := by rw [← HR2.out, hF, if_pos hlt]
        have HR9 := Lib.hid hr
        clear hr hF
        go_wp2
        go_returns
        rw [HR9.out]
        exact ⟨rfl, below_step (w := w) (by go_grown) (below_step HBr.out (by go_grown))⟩
      have hq2 : Hid (firstFrom (fun i => decide (x ≤ r i)) (n - (j + 1)) (j + 1) = F) := (firstFrom_miss hlt (decide_eq_false hx)).symm.trans hq.out
      go_wp2
      go_roundw
      case rel => exact ⟨j + 1, by omega, by go_num, hq2, below_step HBr.out (by go_grown)⟩
      case measure => simp [intOf]; omega
    · have hF : F = n := hq.out.symm.trans (firstFrom_end hj hlt)
      have hr : R = 0 := by rw [← HR2.out, hF]; simp
      have HR9 := Lib.hid hr
      clear hr hF
      have HBr := Lib.hid hb
      clear hb
      go_wp2
      go_returns
      rw [HR9.out]
      exact ⟨rfl, by first | exact below_step (w := w) (by go_grown) HBr.out⟩
set_option maxHeartbeats 4000000 in
theorem rload_any (v : Value) (s : ByteArray) (n : Nat) (r q : Nat → Int) (x : Int) (w : World) (h : PairsAt w v n r q) :
    Calls Tryd.prog 19 #[.agg #[.string s, v], .int .i64 x] w fun e w' => e = .returned (.int .i64 (loadF n r q x)) ∧ Below w.heap.size w w' := by
  obtain ⟨oa, cap, rfl, hn, hel⟩ := h.form
  have HEL := Lib.hid hel
  clear h hel
  by_cases hx : x < 0
  · have E : loadF n r q x = 0 := if_pos hx
    rw [E]
    clear E
    by_cases h0 : n = 0
    · subst h0
      go_enter Tryd.func19, Tryd.ntmps19
      go_wp2
      go_loopw [5] (fun i wr => i = .int .i64 0 ∧ wr = w.alloc (.cells #[.string s, .slice oa 0 cap] 39)) (fun _ _ => 0)
      case atStart => exact ⟨rfl, rfl⟩
      case round =>
        obtain ⟨rfl, rfl⟩ := hrel
        go_wp2
        go_returns
        exact ⟨rfl, by go_grown⟩
    have k0 : decide ((0 : Int) < n) = true := decide_eq_true (by omega)
    go_enter Tryd.func19, Tryd.ntmps19
    go_wp2
    go_loopw [5] (fun i wr => i = .int .i64 0 ∧ wr = (w.alloc (.cells #[.string s, .slice oa n cap] 39))) (fun _ _ => 0)
    case atStart => exact ⟨rfl, rfl⟩
    case round =>
      obtain ⟨rfl, rfl⟩ := hrel
      go_wp2
      go_returns
      exact ⟨rfl, by go_grown⟩
  have hxp : 0 ≤ x := by omega
  have E : loadF n r q x = (if firstFrom (fun i => decide (x ≤ r i)) n 0 < n then q (firstFrom (fun i => decide (x ≤ r i)) n 0) else 0) := if_neg hx
  rw [E]
  obtain ⟨F, hR⟩ : ∃ F, firstFrom (fun i => decide (x ≤ r i)) n 0 = F := ⟨_, rfl⟩
  have HR := Lib.hid hR
  rw [hR]
  obtain ⟨R, hR2⟩ : ∃ R, (if F < n then q F else 0) = R := ⟨_, rfl⟩
  have HR2 := Lib.hid hR2
  rw [hR2]
  clear E hR hx hR2
  go_enter Tryd.func19, Tryd.ntmps19
  go_wp2
  go_loopw [5] (fun i wr => ∃ j : Nat, j ≤ n ∧ i = .int .i64 j ∧ Hid (firstFrom (fun i => decide (x ≤ r i)) (n - j) j = F) ∧ Below (w.alloc (.cells #[.string s, .slice oa n cap] 39)).heap.size (w.alloc (.cells #[.string s, .slice oa n cap] 39)) wr) (fun i _ => n - (intOf i).toNat)
  case atStart => exact ⟨0, by omega, rfl, HR.out, Below.refl _ _⟩
  case round =>
    obtain ⟨j, hj, rfl, hq, hb⟩ := hrel
    have hW : w.heap.size < wr.heap.size := by have := hb.size; simp at this; omega
    have cB : wr.cell? ⟨w.heap.size, 1, none⟩ = some (.slice oa n cap) := (hb.cell (p := ⟨_, _, none⟩) (by simp)).trans (by simp [go_sem])
    by_cases hlt : j < n
    · obtain ⟨b, off, rfl, hbl, hcl⟩ := HEL.out j hlt
      have c0 : wr.cell? ⟨b, off + j * 2, none⟩ = some (.int .i64 (r j)) := ((hb.cell (p := ⟨_, _, none⟩) (by simp; omega)).trans (World.cell?_alloc_lt _ _ _ hbl)).trans (hcl j hlt).1
      have c1 : wr.cell? ⟨b, off + j * 2 + 1, none⟩ = some (.int .i64 (q j)) := ((hb.cell (p := ⟨_, _, none⟩) (by simp; omega)).trans (World.cell?_alloc_lt _ _ _ hbl)).trans (hcl j hlt).2
      have hbr : b < wr.heap.size := by omega
      have HBr := Lib.hid hb
      have hsz : w.heap.size ≤ wr.heap.size := by omega
      clear hcl hb
      by_cases hx : x ≤ r j
      · have hF : F = j := hq.out.symm.trans (firstFrom_hit hlt (decide_eq_true hx))
        have hr : R = q j := by rw [← HR2.out, hF, if_pos hlt]
        have HR9 := Lib.hid hr
        clear hr hF
        go_wp2
        go_returns
        rw [HR9.out]
        exact ⟨rfl, below_step (w := w) (by go_grown) (below_step HBr.out (by go_grown))⟩
      have hq2 : Hid (firstFrom (fun i => decide (x ≤ r i)) (n - (j + 1)) (j + 1) = F) := (firstFrom_miss hlt (decide_eq_false hx)).symm.trans hq.out
      go_wp2
      go_roundw
      case rel => exact ⟨j + 1, by omega, by go_num, hq2, below_step HBr.out (by go_grown)⟩
      case measure => simp [intOf]; omega
    · have hF : F = n := hq.out.symm.trans (firstFrom_end hj hlt)
      have hr : R = 0 := by rw [← HR2.out, hF]; simp
      have HR9 := Lib.hid hr
      clear hr hF
      have HBr := Lib.hid hb
      clear hb
      go_wp2
      go_returns
      rw [HR9.out]
      exact ⟨rfl, by first | exact below_step (w := w) (by go_grown) HBr.out⟩
end Go.Proofs.YtbfbifogamlepaaDoor
