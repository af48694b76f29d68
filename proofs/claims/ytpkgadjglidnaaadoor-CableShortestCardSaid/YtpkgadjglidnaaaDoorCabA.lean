/-
  The small functions of chapter 45; trays and cables in memory. Conditions: as stated. By an AI agent.
-/
import Derived.Test.YtpkgadjglidnaaaDoorCabP
import Derived.Test.YtpkgadjglidnaaaDoorSlices
import Derived.Test.YtpkgadjglidnaaaDoorSeq
import Derived.Test.YtpkgadjglidnaaaDoorStrs
import Derived.Test.YtpkgadjglidnaaaDoorRelw
namespace Go.Proofs.YtpkgadjglidnaaaDoor
open Go Go.ChangeShapes Go.WideShapes Go.RowKit Go.ChangeAt
set_option linter.unusedVariables false
set_option linter.unusedSimpArgs false

def inB (n lo hi : Int) : Bool := decide (lo ≤ n) && decide (n ≤ hi)
theorem inB_yes {n lo hi : Int} (h0 : lo ≤ n) (h1 : n ≤ hi) : inB n lo hi = true := by simp [inB, h0, h1]
theorem inB_true {n lo hi : Int} (h : inB n lo hi = true) : lo ≤ n ∧ n ≤ hi := by simpa [inB] using h
def trV (t : Tr) : Nat → Value
  | 0 => .int .i64 t.A
  | 1 => .int .i64 t.B
  | 2 => .int .i64 t.L
  | _ => .int .i64 t.S
/-- trays in memory -/
def TraysAt (w : World) (v : Value) (n : Nat) (T : Nat → Tr) : Prop := SliceAt w v n 4 (fun i j => trV (T i) j)
theorem TraysAt.below {w w' : World} {v : Value} {n : Nat} {T : Nat → Tr} (h : TraysAt w v n T) (hb : Below w.heap.size w w') : TraysAt w' v n T := SliceAt.below h hb
theorem TraysAt.form {w : World} {v : Value} {n : Nat} {T : Nat → Tr} (h : TraysAt w v n T) : ∃ (oa : Option Addr) (cap : Nat), v = .slice oa n cap ∧ n ≤ 9223372036854775807 ∧
    ∀ i, i < n → ∃ b off, oa = some ⟨b, off, none⟩ ∧ b < w.heap.size ∧ ∀ k, k < n → w.cell? ⟨b, off + k * 4, none⟩ = some (.int .i64 (T k).A) ∧ w.cell? ⟨b, off + k * 4 + 1, none⟩ = some (.int .i64 (T k).B) ∧ w.cell? ⟨b, off + k * 4 + 2, none⟩ = some (.int .i64 (T k).L) ∧ w.cell? ⟨b, off + k * 4 + 3, none⟩ = some (.int .i64 (T k).S) := by
  obtain ⟨oa, cap, h1, h2, h3, h4⟩ := h
  refine ⟨oa, cap, h1, by omega, fun i hi => ?_⟩
  obtain ⟨b, off, e, hlt, hc⟩ := h4 (by omega)
  exact ⟨b, off, e, hlt, fun k hk => ⟨hc k 0 hk (by decide), hc k 1 hk (by decide), hc k 2 hk (by decide), hc k 3 hk (by decide)⟩⟩
structure Cb where
  id : ByteArray
  fr : Int
  to : Int
  sz : Int
def cbV (c : Cb) : Nat → Value
  | 0 => .string c.id
  | 1 => .int .i64 c.fr
  | 2 => .int .i64 c.to
  | _ => .int .i64 c.sz
/-- cables in memory -/
def CabsAt (w : World) (v : Value) (n : Nat) (C : Nat → Cb) : Prop := SliceAt w v n 4 (fun i j => cbV (C i) j)
theorem CabsAt.below {w w' : World} {v : Value} {n : Nat} {C : Nat → Cb} (h : CabsAt w v n C) (hb : Below w.heap.size w w') : CabsAt w' v n C := SliceAt.below h hb
theorem CabsAt.form {w : World} {v : Value} {n : Nat} {C : Nat → Cb} (h : CabsAt w v n C) : ∃ (oa : Option Addr) (cap : Nat), v = .slice oa n cap ∧ n ≤ 9223372036854775807 ∧
    ∀ i, i < n → ∃ b off, oa = some ⟨b, off, none⟩ ∧ b < w.heap.size ∧ ∀ k, k < n → w.cell? ⟨b, off + k * 4, none⟩ = some (.string (C k).id) ∧ w.cell? ⟨b, off + k * 4 + 1, none⟩ = some (.int .i64 (C k).fr) ∧ w.cell? ⟨b, off + k * 4 + 2, none⟩ = some (.int .i64 (C k).to) ∧ w.cell? ⟨b, off + k * 4 + 3, none⟩ = some (.int .i64 (C k).sz) := by
  obtain ⟨oa, cap, h1, h2, h3, h4⟩ := h
  refine ⟨oa, cap, h1, by omega, fun i hi => ?_⟩
  obtain ⟨b, off, e, hlt, hc⟩ := h4 (by omega)
  exact ⟨b, off, e, hlt, fun k hk => ⟨hc k 0 hk (by decide), hc k 1 hk (by decide), hc k 2 hk (by decide), hc k 3 hk (by decide)⟩⟩
/-- the program's 'other' -/
def othN (a b v : Int) : Int := if v = a then b else if v = b then a else 0
def othB (a b v : Int) : Bool := decide (v = a) || decide (v = b)
/-- the reference's -/
def rothN (a b v : Int) : Int := if a = v then b else a
def fillF (s u : Int) : Int := if 1 ≤ u ∧ u ≤ 1099511627776 ∧ 1 ≤ s ∧ s ≤ 1099511627776 then (1000 * u + s - 1).tdiv s else 0
theorem oth_goes {t : Tr} {v w : Int} (h : t.A ≠ t.B) : Goes t v w ↔ othB t.A t.B v = true ∧ othN t.A t.B v = w := by
  unfold Goes othB othN
  constructor
  · rintro (⟨h1, h2⟩ | ⟨h1, h2⟩)
    · simp [h1, h2]
    · subst h1 h2; simp [Ne.symm h]
  · rintro ⟨h1, h2⟩
    by_cases e : v = t.A
    · rw [if_pos e] at h2; exact .inl ⟨e, h2.symm⟩
    · rw [if_neg e] at h2
      simp [e] at h1
      rw [if_pos h1] at h2
      exact .inr ⟨h1, h2.symm⟩
theorem roth_goes {t : Tr} {v w : Int} (h : t.A ≠ t.B) : Goes t v w ↔ othB t.A t.B v = true ∧ rothN t.A t.B v = w := by
  rw [oth_goes h]
  unfold othB othN rothN
  constructor
  · rintro ⟨h1, h2⟩
    refine ⟨h1, ?_⟩
    by_cases e : v = t.A
    · rw [if_pos e] at h2; rw [if_pos e.symm]; exact h2
    · rw [if_neg e] at h2
      simp [e] at h1
      rw [if_pos h1] at h2
      rw [if_neg (fun h => e h.symm)]; exact h2
  · rintro ⟨h1, h2⟩
    refine ⟨h1, ?_⟩
    by_cases e : v = t.A
    · rw [if_pos e.symm] at h2; rw [if_pos e]; exact h2
    · rw [if_neg (fun h => e h.symm)] at h2
      simp [e] at h1
      rw [if_neg e, if_pos h1]; exact h2

set_option maxHeartbeats 1000000 in
theorem from_any (n lo hi : Int) (w : World) : Calls Tryd.prog 27 #[.int .i64 n, .int .i64 lo, .int .i64 hi] w fun e w' => e = .returned (.bool (inB n lo hi)) ∧ Below w.heap.size w w' := by
  obtain ⟨R, hR⟩ : ∃ R, inB n lo hi = R := ⟨_, rfl⟩
  rw [hR]
  unfold inB at hR
  by_cases h1 : lo ≤ n
  · have k1 : decide (lo ≤ n) = true := decide_eq_true h1
    rw [k1, Bool.true_and] at hR
    have HR := Lib.hid hR
    clear hR h1
    go_enter Tryd.func27, Tryd.ntmps27
    go_wp2
    go_returns
    rw [← HR.out]
    exact ⟨rfl, by go_grown⟩
  · have k1 : decide (lo ≤ n) = false := decide_eq_false h1
    rw [k1, Bool.false_and] at hR
    have HR := Lib.hid hR
    clear hR h1
    go_enter Tryd.func27, Tryd.ntmps27
    go_wp2
    go_returns
    rw [← HR.out]
    exact ⟨rfl, by go_grown⟩

set_option maxHeartbeats 1000000 in
theorem in_any (n lo hi : Int) (w : World) : Calls Tryd.prog 28 #[.int .i64 n, .int .i64 lo, .int .i64 hi] w fun e w' => e = .returned (.bool (inB n lo hi)) ∧ Below w.heap.size w w' := by
  obtain ⟨R, hR⟩ : ∃ R, inB n lo hi = R := ⟨_, rfl⟩
  rw [hR]
  unfold inB at hR
  by_cases h1 : lo ≤ n
  · have k1 : decide (lo ≤ n) = true := decide_eq_true h1
    rw [k1, Bool.true_and] at hR
    have HR := Lib.hid hR
    clear hR h1
    go_enter Tryd.func28, Tryd.ntmps28
    go_wp2
    go_returns
    rw [← HR.out]
    exact ⟨rfl, by go_grown⟩
  · have k1 : decide (lo ≤ n) = false := decide_eq_false h1
    rw [k1, Bool.false_and] at hR
    have HR := Lib.hid hR
    clear hR h1
    go_enter Tryd.func28, Tryd.ntmps28
    go_wp2
    go_returns
    rw [← HR.out]
    exact ⟨rfl, by go_grown⟩

set_option maxHeartbeats 1000000 in
theorem junction_any (n : Int) (w : World) : Calls Tryd.prog 29 #[.int .i64 n] w fun e w' => e = .returned (.bool (inB n 0 255)) ∧ Below w.heap.size w w' := by
  go_enter Tryd.func29, Tryd.ntmps29
  go_wp2_with fail
  (go_at_call 27; refine (from_any _ _ _ _).mono ?_; rintro e_ w1 ⟨rfl, hb⟩)
  have hB : Below w.heap.size w w1 := below_step (w := w) (by go_grown) hb
  go_wp2
  go_returns
  exact ⟨rfl, hB⟩

set_option maxHeartbeats 1000000 in
theorem other_any (a b l s v : Int) (w : World) : Calls Tryd.prog 33 #[.agg #[.int .i64 a, .int .i64 b, .int .i64 l, .int .i64 s], .int .i64 v] w fun e w' => e = .returned (.tuple #[.int .i64 (othN a b v), .bool (othB a b v)]) ∧ Below w.heap.size w w' := by
  unfold othN othB
  by_cases h1 : v = a
  · rw [if_pos h1, decide_eq_true h1, Bool.true_or]
    subst h1
    go_enter Tryd.func33, Tryd.ntmps33
    go_wp2
    go_returns
    exact ⟨rfl, by go_grown⟩
  · have k1 : (v == a) = false := by simpa using h1
    rw [if_neg h1, decide_eq_false h1, Bool.false_or]
    clear h1
    by_cases h2 : v = b
    · rw [if_pos h2, decide_eq_true h2]
      subst h2
      go_enter Tryd.func33, Tryd.ntmps33
      go_wp2
      go_returns
      exact ⟨rfl, by go_grown⟩
    · have k2 : (v == b) = false := by simpa using h2
      rw [if_neg h2, decide_eq_false h2]
      clear h2
      go_enter Tryd.func33, Tryd.ntmps33
      go_wp2
      go_returns
      exact ⟨rfl, by go_grown⟩

set_option maxHeartbeats 1000000 in
theorem rother_any (a b l s v : Int) (w : World) : Calls Tryd.prog 35 #[.agg #[.int .i64 a, .int .i64 b, .int .i64 l, .int .i64 s], .int .i64 v] w fun e w' => e = .returned (.tuple #[.int .i64 (rothN a b v), .bool (othB a b v)]) ∧ Below w.heap.size w w' := by
  unfold rothN othB
  by_cases h1 : a = v
  · rw [if_pos h1, decide_eq_true h1.symm, Bool.true_or]
    subst h1
    go_enter Tryd.func35, Tryd.ntmps35
    go_wp2
    go_returns
    exact ⟨rfl, by go_grown⟩
  · have k1 : (a == v) = false := by simpa using h1
    rw [if_neg h1, decide_eq_false (fun e => h1 e.symm), Bool.false_or]
    clear h1
    have HR : Hid ((b == v) = decide (v = b)) := by
      show _ = _
      by_cases e : v = b
      · subst e; simp
      · rw [decide_eq_false e]; simp; exact fun h => e h.symm
    obtain ⟨R, hR⟩ : ∃ R, decide (v = b) = R := ⟨_, rfl⟩
    rw [hR] at HR ⊢
    clear hR
    go_enter Tryd.func35, Tryd.ntmps35
    go_wp2_with fail
    refine wp_region_relw 8 (by kernel_rfl) (by kernel_rfl) (by kernel_rfl) ?_
    simp only [List.take_succ_cons, List.take_zero, fillL, Act.put, List.setIfInBounds_toArray, List.set_cons_zero, List.set_cons_succ]
    iterate 8
      apply rel_is
      · intro u wx hb hd
        have hz := hb.size
        (try simp only [World.size_alloc, World.size_setCell] at hz)
        have hz0 : w.heap.size < wx.heap.size := by omega
        obtain ⟨hc, hf⟩ := bcell hb
        have HBX := Lib.hid hb
        clear hb hz
        simp [depsS, Region.binds, updS, Stay.is, Stay.any] at hd
        go_simp
        first | exact ⟨Below.refl _ _, rfl⟩ | rfl
    intro u w1 hb hE
    have e0 : u 0 = _ := endS_get hE 0 (by decide)
    have e1 : u 1 = _ := endS_get hE 1 (by decide)
    have e2 : u 2 = _ := endS_get hE 2 (by decide)
    have e3 : u 3 = _ := endS_get hE 3 (by decide)
    have e4 : u 4 = _ := endS_get hE 4 (by decide)
    have e5 : u 5 = _ := endS_get hE 5 (by decide)
    have e6 : u 6 = _ := endS_get hE 6 (by decide)
    have e7 : u 7 = _ := endS_get hE 7 (by decide)
    simp only [List.drop_succ_cons, List.drop_zero, List.take_succ_cons, List.take_zero, fillL, Act.put, List.setIfInBounds_toArray, List.set_cons_zero, List.set_cons_succ, e0, e1, e2, e3, e4, e5, e6, e7]
    clear e0 e1 e2 e3 e4 e5 e6 e7 hE
    have HBw1 := Lib.hid (below_step (w := w) (by first | assumption | go_grown) hb)
    have HBXw1 := Lib.hid hb
    have hzw1 := hb.size
    (try simp only [World.size_alloc, World.size_setCell] at hzw1)
    have hzw10 : w.heap.size < w1.heap.size := by omega
    obtain ⟨hcw1, hfw1⟩ := bcell hb
    clear hb hzw1
    go_wp2
    go_returns
    rw [← HR.out]
    exact ⟨rfl, HBw1.out⟩

theorem tdiv_small {m s : Int} (hm : 0 ≤ m ∧ m ≤ 2000000000000000) (hs : 1 ≤ s) : 0 ≤ m.tdiv s ∧ m.tdiv s ≤ 2000000000000000 := by
  refine ⟨Int.tdiv_nonneg hm.1 (by omega), ?_⟩
  have := Int.tdiv_le_self (b := s) hm.1
  omega

set_option maxHeartbeats 1000000 in
theorem fill_any (a b l s u : Int) (w : World) : Calls Tryd.prog 12 #[.agg #[.int .i64 a, .int .i64 b, .int .i64 l, .int .i64 s], .int .i64 u] w fun e w' => e = .returned (.int .i64 (fillF s u)) ∧ Below w.heap.size w w' := by
  cases k1 : inB u 1 1099511627776
  · have hF : fillF s u = 0 := if_neg (fun h => by rw [inB_yes h.1 h.2.1] at k1; cases k1)
    have HK1 := Lib.hid k1
    rw [hF]
    clear k1 hF
    go_enter Tryd.func12, Tryd.ntmps12
    go_wp2_with fail
    (go_at_call 27; refine (from_any _ _ _ _).mono ?_; rintro e_ w1 ⟨rfl, hb⟩)
    rw [HK1.out]
    have hBw1 : Below w.heap.size w w1 := below_step (w := w) (by first | assumption | go_grown) hb
    have hsw1 := hb.size
    (try simp only [World.size_alloc, World.size_setCell] at hsw1)
    have s3w1 : w1.cell? ⟨w.heap.size, 3, none⟩ = some (.int .i64 s) := (hb.cell (p := ⟨w.heap.size, 3, none⟩) (by simp)).trans (by simp [go_sem])
    have z1 : w.heap.size < w1.heap.size := by omega
    clear hb
    go_wp2
    go_returns
    exact ⟨rfl, hBw1⟩
  · have HK1 := Lib.hid k1
    cases k2 : inB s 1 1099511627776
    · have hF : fillF s u = 0 := if_neg (fun h => by rw [inB_yes h.2.2.1 h.2.2.2] at k2; cases k2)
      have HK2 := Lib.hid k2
      rw [hF]
      clear k1 k2 hF
      go_enter Tryd.func12, Tryd.ntmps12
      go_wp2_with fail
      (go_at_call 27; refine (from_any _ _ _ _).mono ?_; rintro e_ w1 ⟨rfl, hb⟩)
      rw [HK1.out]
      have hBw1 : Below w.heap.size w w1 := below_step (w := w) (by first | assumption | go_grown) hb
      have hsw1 := hb.size
      (try simp only [World.size_alloc, World.size_setCell] at hsw1)
      have s3w1 : w1.cell? ⟨w.heap.size, 3, none⟩ = some (.int .i64 s) := (hb.cell (p := ⟨w.heap.size, 3, none⟩) (by simp)).trans (by simp [go_sem])
      have z1 : w.heap.size < w1.heap.size := by omega
      clear hb
      go_wp2_with fail
      (go_at_call 27; refine (from_any _ _ _ _).mono ?_; rintro e_ w2 ⟨rfl, hb⟩)
      rw [HK2.out]
      have hBw2 : Below w.heap.size w w2 := below_step (w := w) (by first | assumption | go_grown) hb
      have hsw2 := hb.size
      (try simp only [World.size_alloc, World.size_setCell] at hsw2)
      have s3w2 : w2.cell? ⟨w.heap.size, 3, none⟩ = some (.int .i64 s) := (hb.cell (p := ⟨w.heap.size, 3, none⟩) z1).trans s3w1
      have z2 : w.heap.size < w2.heap.size := by omega
      clear hb s3w1
      go_wp2
      go_returns
      exact ⟨rfl, hBw2⟩
    · have HK2 := Lib.hid k2
      have g1 := inB_true k1
      have g2 := inB_true k2
      have hF : fillF s u = (1000 * u + s - 1).tdiv s := if_pos ⟨g1.1, g1.2, g2.1, g2.2⟩
      rw [hF]
      obtain ⟨m, hm⟩ : ∃ m, 1000 * u + s - 1 = m := ⟨_, rfl⟩
      have e1 : IntKind.i64.wrap (1000 * u) = 1000 * u := IntWalk.i64_in _ (by omega)
      have e2 : IntKind.i64.wrap (1000 * u + s) = 1000 * u + s := IntWalk.i64_in _ (by omega)
      have e3 : IntKind.i64.wrap (1000 * u + s - 1) = m := by rw [hm]; exact IntWalk.i64_in _ (by omega)
      have hq := tdiv_small (m := m) (s := s) (by omega) (by omega)
      obtain ⟨Q, hQ⟩ : ∃ Q, m.tdiv s = Q := ⟨_, rfl⟩
      rw [hm, hQ]
      rw [hQ] at hq
      have e4 : IntKind.i64.wrap (m.tdiv s) = Q := by rw [hQ]; exact IntWalk.i64_in _ (by omega)
      have hs0 : (s == 0) = false := by simp; omega
      have hs1 : s ≠ 0 := by omega
      have e5 : IntKind.i64.wrap Q = Q := IntWalk.i64_in _ (by omega)
      clear k1 k2 hF g1 g2 hm hq
      go_enter Tryd.func12, Tryd.ntmps12
      go_wp2_with fail
      (go_at_call 27; refine (from_any _ _ _ _).mono ?_; rintro e_ w1 ⟨rfl, hb⟩)
      rw [HK1.out]
      have hBw1 : Below w.heap.size w w1 := below_step (w := w) (by first | assumption | go_grown) hb
      have hsw1 := hb.size
      (try simp only [World.size_alloc, World.size_setCell] at hsw1)
      have s3w1 : w1.cell? ⟨w.heap.size, 3, none⟩ = some (.int .i64 s) := (hb.cell (p := ⟨w.heap.size, 3, none⟩) (by simp)).trans (by simp [go_sem])
      have z1 : w.heap.size < w1.heap.size := by omega
      clear hb
      go_wp2_with fail
      (go_at_call 27; refine (from_any _ _ _ _).mono ?_; rintro e_ w2 ⟨rfl, hb⟩)
      rw [HK2.out]
      have hBw2 : Below w.heap.size w w2 := below_step (w := w) (by first | assumption | go_grown) hb
      have hsw2 := hb.size
      (try simp only [World.size_alloc, World.size_setCell] at hsw2)
      have s3w2 : w2.cell? ⟨w.heap.size, 3, none⟩ = some (.int .i64 s) := (hb.cell (p := ⟨w.heap.size, 3, none⟩) z1).trans s3w1
      have z2 : w.heap.size < w2.heap.size := by omega
      clear hb s3w1
      go_wp2
      go_returns
      exact ⟨rfl, hBw2⟩

set_option maxHeartbeats 1000000 in
theorem rfill_any (a b l s u : Int) (w : World) : Calls Tryd.prog 13 #[.agg #[.int .i64 a, .int .i64 b, .int .i64 l, .int .i64 s], .int .i64 u] w fun e w' => e = .returned (.int .i64 (fillF s u)) ∧ Below w.heap.size w w' := by
  cases k1 : inB u 1 1099511627776
  · have hF : fillF s u = 0 := if_neg (fun h => by rw [inB_yes h.1 h.2.1] at k1; cases k1)
    have HK1 := Lib.hid k1
    rw [hF]
    clear k1 hF
    go_enter Tryd.func13, Tryd.ntmps13
    go_wp2_with fail
    (go_at_call 28; refine (in_any _ _ _ _).mono ?_; rintro e_ w1 ⟨rfl, hb⟩)
    rw [HK1.out]
    have hBw1 : Below w.heap.size w w1 := below_step (w := w) (by first | assumption | go_grown) hb
    have hsw1 := hb.size
    (try simp only [World.size_alloc, World.size_setCell] at hsw1)
    have s3w1 : w1.cell? ⟨w.heap.size, 3, none⟩ = some (.int .i64 s) := (hb.cell (p := ⟨w.heap.size, 3, none⟩) (by simp)).trans (by simp [go_sem])
    have z1 : w.heap.size < w1.heap.size := by omega
    clear hb
    go_wp2
    go_returns
    exact ⟨rfl, hBw1⟩
  · have HK1 := Lib.hid k1
    cases k2 : inB s 1 1099511627776
    · have hF : fillF s u = 0 := if_neg (fun h => by rw [inB_yes h.2.2.1 h.2.2.2] at k2; cases k2)
      have HK2 := Lib.hid k2
      rw [hF]
      clear k1 k2 hF
      go_enter Tryd.func13, Tryd.ntmps13
      go_wp2_with fail
      (go_at_call 28; refine (in_any _ _ _ _).mono ?_; rintro e_ w1 ⟨rfl, hb⟩)
      rw [HK1.out]
      have hBw1 : Below w.heap.size w w1 := below_step (w := w) (by first | assumption | go_grown) hb
      have hsw1 := hb.size
      (try simp only [World.size_alloc, World.size_setCell] at hsw1)
      have s3w1 : w1.cell? ⟨w.heap.size, 3, none⟩ = some (.int .i64 s) := (hb.cell (p := ⟨w.heap.size, 3, none⟩) (by simp)).trans (by simp [go_sem])
      have z1 : w.heap.size < w1.heap.size := by omega
      clear hb
      go_wp2_with fail
      (go_at_call 28; refine (in_any _ _ _ _).mono ?_; rintro e_ w2 ⟨rfl, hb⟩)
      rw [HK2.out]
      have hBw2 : Below w.heap.size w w2 := below_step (w := w) (by first | assumption | go_grown) hb
      have hsw2 := hb.size
      (try simp only [World.size_alloc, World.size_setCell] at hsw2)
      have s3w2 : w2.cell? ⟨w.heap.size, 3, none⟩ = some (.int .i64 s) := (hb.cell (p := ⟨w.heap.size, 3, none⟩) z1).trans s3w1
      have z2 : w.heap.size < w2.heap.size := by omega
      clear hb s3w1
      go_wp2
      go_returns
      exact ⟨rfl, hBw2⟩
    · have HK2 := Lib.hid k2
      have g1 := inB_true k1
      have g2 := inB_true k2
      have hF : fillF s u = (1000 * u + s - 1).tdiv s := if_pos ⟨g1.1, g1.2, g2.1, g2.2⟩
      rw [hF]
      obtain ⟨m, hm⟩ : ∃ m, 1000 * u + s - 1 = m := ⟨_, rfl⟩
      have e1 : IntKind.i64.wrap (u * 1000) = u * 1000 := IntWalk.i64_in _ (by omega)
      have e2 : IntKind.i64.wrap (u * 1000 + s) = u * 1000 + s := IntWalk.i64_in _ (by omega)
      have e3 : IntKind.i64.wrap (u * 1000 + s - 1) = m := by rw [show u * 1000 + s - 1 = m by omega]; exact IntWalk.i64_in _ (by omega)
      have hq := tdiv_small (m := m) (s := s) (by omega) (by omega)
      obtain ⟨Q, hQ⟩ : ∃ Q, m.tdiv s = Q := ⟨_, rfl⟩
      rw [hm, hQ]
      rw [hQ] at hq
      have e4 : IntKind.i64.wrap (m.tdiv s) = Q := by rw [hQ]; exact IntWalk.i64_in _ (by omega)
      have hs0 : (s == 0) = false := by simp; omega
      have hs1 : s ≠ 0 := by omega
      have e5 : IntKind.i64.wrap Q = Q := IntWalk.i64_in _ (by omega)
      clear k1 k2 hF g1 g2 hm hq
      go_enter Tryd.func13, Tryd.ntmps13
      go_wp2_with fail
      (go_at_call 28; refine (in_any _ _ _ _).mono ?_; rintro e_ w1 ⟨rfl, hb⟩)
      rw [HK1.out]
      have hBw1 : Below w.heap.size w w1 := below_step (w := w) (by first | assumption | go_grown) hb
      have hsw1 := hb.size
      (try simp only [World.size_alloc, World.size_setCell] at hsw1)
      have s3w1 : w1.cell? ⟨w.heap.size, 3, none⟩ = some (.int .i64 s) := (hb.cell (p := ⟨w.heap.size, 3, none⟩) (by simp)).trans (by simp [go_sem])
      have z1 : w.heap.size < w1.heap.size := by omega
      clear hb
      go_wp2_with fail
      (go_at_call 28; refine (in_any _ _ _ _).mono ?_; rintro e_ w2 ⟨rfl, hb⟩)
      rw [HK2.out]
      have hBw2 : Below w.heap.size w w2 := below_step (w := w) (by first | assumption | go_grown) hb
      have hsw2 := hb.size
      (try simp only [World.size_alloc, World.size_setCell] at hsw2)
      have s3w2 : w2.cell? ⟨w.heap.size, 3, none⟩ = some (.int .i64 s) := (hb.cell (p := ⟨w.heap.size, 3, none⟩) z1).trans s3w1
      have z2 : w.heap.size < w2.heap.size := by omega
      clear hb s3w1
      go_wp2
      go_returns
      exact ⟨rfl, hBw2⟩
end Go.Proofs.YtpkgadjglidnaaaDoor
