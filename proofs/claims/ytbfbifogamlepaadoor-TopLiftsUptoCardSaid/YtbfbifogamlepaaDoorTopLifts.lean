/-
  In a permitted lift each crane is within its chart, and together they carry the whole, for arguments of at most 1048576 values and letters. Conditions: none but that bound (the card ties the two tables of unicode/utf8 to the program's text). By an AI agent.
-/
import Derived.Test.YtbfbifogamlepaaDoorLiftR
import Derived.Test.YtbfbifogamlepaaDoorLiftP
namespace Go.Proofs.YtbfbifogamlepaaDoor
open Go Go.ChangeShapes Go.WideShapes Go.RowKit Go.ChangeAt
set_option linter.unusedSimpArgs false
set_option linter.unusedVariables false
theorem liftF_ok {blk : ByteArray} {n : Nat} {cr : Nat → ByteArray} {hx hy hr : Nat → Int} {m x y z v : Int} {nc : Nat} {nm : Nat → ByteArray} {rn : Nat → Nat} {rr qq : Nat → Nat → Int} (h : liftF blk n cr hx hy hr m x y z v nc nm rn rr qq = 0) :
    hooksFrom nc nm cr n 0 = 0 ∧ (loadsF n hx hy m x y z v).2 = 0 ∧ overFrom nc nm rn rr qq cr hr (loadsF n hx hy m x y z v).1 n 0 = 0 := by
  unfold liftF at h
  split at h
  · cases h
  · split at h
    · rename_i h1; exact absurd h h1
    · split at h
      · rename_i h1; exact absurd h h1
      · rename_i h1
        split at h
        · rename_i h2; exact absurd h h2
        · rename_i h2
          exact ⟨by omega, by omega, h⟩
theorem hooks_ok {nc : Nat} {nm cr : Nat → ByteArray} : ∀ k j, hooksFrom nc nm cr k j = 0 → ∀ i, j ≤ i → i < j + k → findF nc nm (cr i) < nc ∧ (0 < i → ((cr i).toList == (cr (i - 1)).toList) = false)
  | 0, j, _, i, h1, h2 => by omega
  | k + 1, j, h, i, h1, h2 => by
    unfold hooksFrom at h
    split at h
    · cases h
    · rename_i hf
      split at h
      · cases h
      · rename_i hd
        by_cases e : i = j
        · subst e
          refine ⟨by omega, fun h0 => ?_⟩
          cases hq : ((cr i).toList == (cr (i - 1)).toList) with
          | false => rfl
          | true => exact absurd ⟨h0, hq⟩ hd
        · exact hooks_ok k (j + 1) h i (by omega) (by omega)
theorem over_ok {nc : Nat} {nm : Nat → ByteArray} {rn : Nat → Nat} {rr qq : Nat → Nat → Int} {cr : Nat → ByteArray} {hr : Nat → Int} {l : List Int} : ∀ k j, overFrom nc nm rn rr qq cr hr l k j = 0 → ∀ i, j ≤ i → i < j + k → l.getD i 0 ≤ craneL nc nm rn rr qq (cr i) (hr i)
  | 0, j, _, i, h1, h2 => by omega
  | k + 1, j, h, i, h1, h2 => by
    unfold overFrom at h
    split at h
    · cases h
    · rename_i hf
      by_cases e : i = j
      · subst e; omega
      · exact over_ok k (j + 1) h i (by omega) (by omega)
theorem check_each {n : Nat} {nm : Nat → ByteArray} {rn : Nat → Nat} {r q : Nat → Nat → Int} : ∀ k j, checkFrom n nm rn r q k j = 0 → ∀ i, j ≤ i → i < j + k → CheckErr nm rn r q i = 0
  | 0, j, _, i, h1, h2 => by omega
  | k + 1, j, h, i, h1, h2 => by
    unfold checkFrom at h
    split at h
    · rename_i hc; exact absurd h hc
    · rename_i hc
      by_cases e : i = j
      · subst e; omega
      · exact check_each k (j + 1) h i (by omega) (by omega)
theorem check_small {n : Nat} {nm : Nat → ByteArray} {rn : Nat → Nat} {r q : Nat → Nat → Int} (h : checkF n nm rn r q = 0) : n ≤ 8 ∧ ∀ i, i < n → rn i ≤ 1000 := by
  unfold checkF at h
  split at h
  · cases h
  · refine ⟨by omega, fun i hi => ?_⟩
    have h1 := check_each n 0 h i (by omega) (by omega)
    unfold CheckErr at h1
    split at h1
    · cases h1
    · split at h1
      · cases h1
      · unfold chartF at h1
        split at h1
        · cases h1
        · split at h1
          · cases h1
          · omega
theorem gross_margin {m x y z v : Int} (h : (grossF m x y z v).2 = 0) : 105 * (m + 3000 * rootF v) ≤ 100 * (grossF m x y z v).1 := by
  obtain ⟨hw, hm⟩ := gross_ok h
  obtain ⟨s0, s1⟩ := rootF_bd v
  have e : (grossF m x y z v).1 = ceilF ((m + 3000 * rootF v) * 105) 100 := by unfold grossF; rw [if_pos hw, if_neg (by omega)]
  obtain ⟨c0, c1, c2⟩ := ceil_low ((m + 3000 * rootF v) * 105) 100 (by omega) (by have := hw.1.1; omega)
  rw [e]
  omega
theorem blk_bulk {H : Type} {enc : TypeId × Value → H} {W : World} {blk : ByteArray} {hv : Value} {d : DataW H} {ps : List MemPlace} (h : DataW.Trod enc Tryd.prog W 0 (fun _ => true) true 24 (.agg #[.string blk, hv]) d ps) : blk.size ≤ Rows.uptoBulk d := by
  obtain ⟨fuel, hf⟩ := h
  obtain ⟨xs, m, _, hx, hlen, hxl, hfs⟩ := DataW.trod_struct (fs := Tryd.prog.fieldsOf 24) (by kernel_rfl) hf
  have h0 := hfs 0 ((Tryd.prog.fieldsOf 24)[0]!) (by kernel_rfl)
  rw [show (Tryd.prog.fieldsOf 24)[0]!.type = 9 by kernel_rfl, show (Tryd.prog.fieldsOf 24)[0]!.offset = 0 by kernel_rfl, show Tryd.prog.cellsOf 9 = 1 by kernel_rfl] at h0
  have hsz : (Tryd.prog.fieldsOf 24).size = 2 := by kernel_rfl
  rw [hsz] at hxl
  match xs, hxl, hx, h0 with
  | [x0, x1], _, hx, h0 =>
    have h0' : DataW.trod enc Tryd.prog W 0 (fun _ => true) true m 9 [.string blk] = some x0 := h0
    obtain ⟨s, e0, d0, _⟩ := DataW.trod_string Tryd.underlying9 h0'
    obtain rfl : blk = s := by simpa using e0
    have hd : d = DataW.agg [x0.1, x1.1] := by simpa using congrArg Prod.fst hx
    rw [hd, d0]
    simp only [Rows.uptoBulk, Rows.uptoBulkAll]
    have := Lib.size_eq blk
    omega
set_option maxRecDepth 20000 in
set_option maxHeartbeats 8000000 in
theorem topLifts_walk (blk : ByteArray) (hv : Value) (n : Nat) (cr : Nat → ByteArray) (hx hy hr : Nat → Int) (m x y z v : Int) (cv : Value) (nc : Nat) (nm : Nat → ByteArray) (cw : Nat → Value) (rn : Nat → Nat) (rr qq : Nat → Nat → Int) (w : World) (hm : MaxLenIs w) (hbk : blk.size ≤ 1048576) (hh : HooksAt w hv n cr hx hy hr) (hc : CranesAt w cv nc nm cw rn rr qq) : Calls Tryd.prog 3 #[.agg #[.string blk, hv], .agg #[.int .i64 m, .int .i64 x, .int .i64 y, .int .i64 z, .int .i64 v], cv] w fun e w' => e = .returned (.bool true) ∧ Below w.heap.size w w' := by
  have HM := Lib.hid hm
  have HH := Lib.hid hh
  have HC := Lib.hid hc
  obtain ⟨oa, cap, rfl, hn, hel⟩ := hh.form
  have HEL := Lib.hid hel
  obtain ⟨ca, cc', rfl, hcn, -⟩ := hc.form
  obtain ⟨CK, hCK⟩ : ∃ CK, checkF nc nm rn rr qq = CK := ⟨_, rfl⟩
  have HCK := Lib.hid hCK
  obtain ⟨K, hK⟩ : ∃ K, liftF blk n cr hx hy hr m x y z v nc nm rn rr qq = K := ⟨_, rfl⟩
  have HK := Lib.hid hK
  clear hm hh hc hel hCK hK
  by_cases h10 : 4 < n
  · have b10 : decide (4 < (n : Int)) = true := decide_eq_true (by omega)
    go_enter Tryd.func3, Tryd.ntmps3
    go_wp2
    go_returns
    exact ⟨rfl, by go_grown⟩
  have b10 : decide (4 < (n : Int)) = false := decide_eq_false (by omega)
  by_cases h20 : 20 < nc
  · have b20 : decide (20 < (nc : Int)) = true := decide_eq_true (by omega)
    go_enter Tryd.func3, Tryd.ntmps3
    go_wp2
    go_returns
    exact ⟨rfl, by go_grown⟩
  have b20 : decide (20 < (nc : Int)) = false := decide_eq_false (by omega)
  by_cases hck : CK = 0
  · subst hck
    obtain ⟨h8, hsm⟩ := check_small HCK.out
    have HSM := Lib.hid hsm
    clear hsm
    by_cases hk0 : K = 0
    · subst hk0
      obtain ⟨q0, q1, q2⟩ := liftF_ok HK.out
      have QH := Lib.hid (hooks_ok n 0 q0)
      have QO := Lib.hid (over_ok n 0 q2)
      obtain ⟨f0, f1⟩ := loads_facts q1
      obtain ⟨G, GE, hG⟩ : ∃ G GE, grossF m x y z v = (G, GE) := ⟨_, _, rfl⟩
      obtain ⟨L, LE, hL⟩ : ∃ L LE, loadsF n hx hy m x y z v = (L, LE) := ⟨_, _, rfl⟩
      obtain ⟨gf0, gf1, -⟩ := gross_facts f0
      have gf2 := gross_margin f0
      obtain ⟨hwok, hm0⟩ := gross_ok f0
      obtain ⟨S, hS⟩ : ∃ S, rootF v = S := ⟨_, rfl⟩
      obtain ⟨s0, s1⟩ := rootF_bd v
      rw [hS] at s0 s1 gf2
      rw [hG] at f0 gf0 gf1 gf2
      rw [hG, hL] at f1
      rw [hL] at q1 QO
      have f0 : GE = 0 := f0
      have q1 : LE = 0 := q1
      subst f0 q1
      have gf0 : 0 ≤ G := gf0
      have gf1 : G ≤ 4611686018427387 := gf1
      have gf2 : 105 * (m + 3000 * S) ≤ 100 * G := gf2
      have hm1 := hwok.1.2
      have HL := Lib.hid hL
      have HG := Lib.hid hG
      have HS := Lib.hid hS
      have HWK := Lib.hid hwok
      have p0 : decide (100 * G < 105 * (m + 3000 * S)) = false := decide_eq_false (by omega)
      have p1 : decide (G < m) = false := decide_eq_false (by omega)
      have w1' : IntKind.i64.wrap (100 * G) = 100 * G := IntWalk.i64_in _ (by omega)
      have w2' : IntKind.i64.wrap (105 * (m + 3000 * S)) = 105 * (m + 3000 * S) := IntWalk.i64_in _ (by omega)
      clear hL hG hS q0 q2 hwok
      rcases f1 with ⟨rfl, hl1⟩ | ⟨rfl, a, b, hl1, a0, b0, a1, b1, ab⟩
      · have hl1 : L = [G] := hl1
        subst hl1
        go_enter Tryd.func3, Tryd.ntmps3
        go_wp2_with fail
        (go_at_call 4; refine (rcheck_any _ _ _ _ _ _ _ _ (HC.out.below (((Below.refl w.heap.size w).alloc (Nat.le_refl _) _).alloc (by simp) _))).mono ?_; rintro e w1 ⟨rfl, hb⟩)
        rw [HCK.out]
        have hs1 := hb.size
        (try simp only [World.size_alloc, World.size_setCell] at hs1)
        have z10 : w.heap.size < w1.heap.size := by omega
        have z11 : w.heap.size + 1 < w1.heap.size := by omega
        have d01 : w1.cell? ⟨w.heap.size, 0, none⟩ = some (.string blk) := (hb.cell (p := ⟨_, _, none⟩) (by simp <;> omega)).trans (by simp [go_sem])
        have d11 : w1.cell? ⟨w.heap.size, 1, none⟩ = some (.slice oa 1 cap) := (hb.cell (p := ⟨_, _, none⟩) (by simp <;> omega)).trans (by simp [go_sem])
        have c01 : w1.cell? ⟨w.heap.size + 1, 0, none⟩ = some (.int .i64 m) := (hb.cell (p := ⟨_, _, none⟩) (by simp <;> omega)).trans (by simp [go_sem])
        have c11 : w1.cell? ⟨w.heap.size + 1, 1, none⟩ = some (.int .i64 x) := (hb.cell (p := ⟨_, _, none⟩) (by simp <;> omega)).trans (by simp [go_sem])
        have c21 : w1.cell? ⟨w.heap.size + 1, 2, none⟩ = some (.int .i64 y) := (hb.cell (p := ⟨_, _, none⟩) (by simp <;> omega)).trans (by simp [go_sem])
        have c31 : w1.cell? ⟨w.heap.size + 1, 3, none⟩ = some (.int .i64 z) := (hb.cell (p := ⟨_, _, none⟩) (by simp <;> omega)).trans (by simp [go_sem])
        have c41 : w1.cell? ⟨w.heap.size + 1, 4, none⟩ = some (.int .i64 v) := (hb.cell (p := ⟨_, _, none⟩) (by simp <;> omega)).trans (by simp [go_sem])
        have HB1 : Hid (Below w.heap.size w w1) := by
          show Below _ _ _
          exact below_step (w := w) (by go_grown) hb
        clear hb hs1
        go_wp2_with fail
        (go_at_call 5; refine (lift_any blk _ 1 cr hx hy hr m x y z v _ nc nm _ rn rr qq _ (by omega) (HM.out.below HB1.out) (HH.out.below HB1.out) (HC.out.below HB1.out) HSM.out).mono ?_; rintro e w2 ⟨rfl, hb⟩)
        rw [HK.out]
        have hs2 := hb.size
        (try simp only [World.size_alloc, World.size_setCell] at hs2)
        have z20 : w.heap.size < w2.heap.size := by omega
        have z21 : w.heap.size + 1 < w2.heap.size := by omega
        have d02 : w2.cell? ⟨w.heap.size, 0, none⟩ = some (.string blk) := (hb.cell (p := ⟨_, _, none⟩) z10).trans d01
        have d12 : w2.cell? ⟨w.heap.size, 1, none⟩ = some (.slice oa 1 cap) := (hb.cell (p := ⟨_, _, none⟩) z10).trans d11
        have c02 : w2.cell? ⟨w.heap.size + 1, 0, none⟩ = some (.int .i64 m) := (hb.cell (p := ⟨_, _, none⟩) z11).trans c01
        have c12 : w2.cell? ⟨w.heap.size + 1, 1, none⟩ = some (.int .i64 x) := (hb.cell (p := ⟨_, _, none⟩) z11).trans c11
        have c22 : w2.cell? ⟨w.heap.size + 1, 2, none⟩ = some (.int .i64 y) := (hb.cell (p := ⟨_, _, none⟩) z11).trans c21
        have c32 : w2.cell? ⟨w.heap.size + 1, 3, none⟩ = some (.int .i64 z) := (hb.cell (p := ⟨_, _, none⟩) z11).trans c31
        have c42 : w2.cell? ⟨w.heap.size + 1, 4, none⟩ = some (.int .i64 v) := (hb.cell (p := ⟨_, _, none⟩) z11).trans c41
        have HB2 : Hid (Below w.heap.size w w2) := by
          show Below _ _ _
          exact below_step HB1.out hb
        clear hb hs2
        go_wp2_with fail
        (go_at_call 7; refine (loads_any blk _ 1 cr hx hy hr m x y z v _ (HH.out.below HB2.out)).mono ?_; rintro e w3 ⟨lv, rfl, hlv, -, hb⟩)
        rw [HL.out] at hlv ⊢
        have HLV := Lib.hid hlv
        obtain ⟨ol, cl, rfl, -, -⟩ := hlv.form
        clear hlv
        have hs3 := hb.size
        (try simp only [World.size_alloc, World.size_setCell] at hs3)
        have z30 : w.heap.size < w3.heap.size := by omega
        have z31 : w.heap.size + 1 < w3.heap.size := by omega
        have d03 : w3.cell? ⟨w.heap.size, 0, none⟩ = some (.string blk) := (hb.cell (p := ⟨_, _, none⟩) z20).trans d02
        have d13 : w3.cell? ⟨w.heap.size, 1, none⟩ = some (.slice oa 1 cap) := (hb.cell (p := ⟨_, _, none⟩) z20).trans d12
        have c03 : w3.cell? ⟨w.heap.size + 1, 0, none⟩ = some (.int .i64 m) := (hb.cell (p := ⟨_, _, none⟩) z21).trans c02
        have c13 : w3.cell? ⟨w.heap.size + 1, 1, none⟩ = some (.int .i64 x) := (hb.cell (p := ⟨_, _, none⟩) z21).trans c12
        have c23 : w3.cell? ⟨w.heap.size + 1, 2, none⟩ = some (.int .i64 y) := (hb.cell (p := ⟨_, _, none⟩) z21).trans c22
        have c33 : w3.cell? ⟨w.heap.size + 1, 3, none⟩ = some (.int .i64 z) := (hb.cell (p := ⟨_, _, none⟩) z21).trans c32
        have c43 : w3.cell? ⟨w.heap.size + 1, 4, none⟩ = some (.int .i64 v) := (hb.cell (p := ⟨_, _, none⟩) z21).trans c42
        have HLV3 := HLV
        have HB3 : Hid (Below w.heap.size w w3) := by
          show Below _ _ _
          exact below_step HB2.out hb
        clear hb hs3
        go_wp2_with fail
        (go_at_call 8; refine (gross_any _ _ _ _ _ _).mono ?_; rintro e w4 ⟨rfl, hb⟩)
        rw [HG.out]
        have hs4 := hb.size
        (try simp only [World.size_alloc, World.size_setCell] at hs4)
        have z40 : w.heap.size < w4.heap.size := by omega
        have z41 : w.heap.size + 1 < w4.heap.size := by omega
        have d04 : w4.cell? ⟨w.heap.size, 0, none⟩ = some (.string blk) := (hb.cell (p := ⟨_, _, none⟩) z30).trans d03
        have d14 : w4.cell? ⟨w.heap.size, 1, none⟩ = some (.slice oa 1 cap) := (hb.cell (p := ⟨_, _, none⟩) z30).trans d13
        have c04 : w4.cell? ⟨w.heap.size + 1, 0, none⟩ = some (.int .i64 m) := (hb.cell (p := ⟨_, _, none⟩) z31).trans c03
        have c14 : w4.cell? ⟨w.heap.size + 1, 1, none⟩ = some (.int .i64 x) := (hb.cell (p := ⟨_, _, none⟩) z31).trans c13
        have c24 : w4.cell? ⟨w.heap.size + 1, 2, none⟩ = some (.int .i64 y) := (hb.cell (p := ⟨_, _, none⟩) z31).trans c23
        have c34 : w4.cell? ⟨w.heap.size + 1, 3, none⟩ = some (.int .i64 z) := (hb.cell (p := ⟨_, _, none⟩) z31).trans c33
        have c44 : w4.cell? ⟨w.heap.size + 1, 4, none⟩ = some (.int .i64 v) := (hb.cell (p := ⟨_, _, none⟩) z31).trans c43
        have HV4 := Lib.hid (HLV.out.below hb)
        have HB4 : Hid (Below w.heap.size w w4) := by
          show Below _ _ _
          exact below_step HB3.out hb
        clear hb hs4
        go_wp2_with fail
        (go_at_call 9; refine (margin_ok _ HWK.out HS.out).mono ?_; rintro e w5 ⟨rfl, hb⟩)
        have hs5 := hb.size
        (try simp only [World.size_alloc, World.size_setCell] at hs5)
        have z50 : w.heap.size < w5.heap.size := by omega
        have z51 : w.heap.size + 1 < w5.heap.size := by omega
        have d05 : w5.cell? ⟨w.heap.size, 0, none⟩ = some (.string blk) := (hb.cell (p := ⟨_, _, none⟩) z40).trans d04
        have d15 : w5.cell? ⟨w.heap.size, 1, none⟩ = some (.slice oa 1 cap) := (hb.cell (p := ⟨_, _, none⟩) z40).trans d14
        have c05 : w5.cell? ⟨w.heap.size + 1, 0, none⟩ = some (.int .i64 m) := (hb.cell (p := ⟨_, _, none⟩) z41).trans c04
        have c15 : w5.cell? ⟨w.heap.size + 1, 1, none⟩ = some (.int .i64 x) := (hb.cell (p := ⟨_, _, none⟩) z41).trans c14
        have c25 : w5.cell? ⟨w.heap.size + 1, 2, none⟩ = some (.int .i64 y) := (hb.cell (p := ⟨_, _, none⟩) z41).trans c24
        have c35 : w5.cell? ⟨w.heap.size + 1, 3, none⟩ = some (.int .i64 z) := (hb.cell (p := ⟨_, _, none⟩) z41).trans c34
        have c45 : w5.cell? ⟨w.heap.size + 1, 4, none⟩ = some (.int .i64 v) := (hb.cell (p := ⟨_, _, none⟩) z41).trans c44
        have HV5 := Lib.hid (HV4.out.below hb)
        have HB5 : Hid (Below w.heap.size w w5) := by
          show Below _ _ _
          exact below_step HB4.out hb
        clear hb hs5
        obtain ⟨ol', cl', hf', -, hll⟩ := HV5.out.form
        cases hf'
        obtain ⟨b1', o1, rfl, hb1l, hc1⟩ := hll 0 (by simp)
        have e0 : w5.cell? ⟨b1', o1, none⟩ = some (.int .i64 G) := hc1 0 (by simp)
        have y0 : decide (G ≤ G) = true := decide_eq_true (by omega)
        have y1 : decide (G ≤ G + 1) = true := decide_eq_true (by omega)
        have y2 : IntKind.i64.wrap (G + 1) = G + 1 := IntWalk.i64_in _ (by omega)
        clear hc1 hll
        simp only [List.length_cons, List.length_nil]
        go_wp2
        go_loopw [13, 14] (fun s i wr => ((i = .int .i64 0 ∧ s = .int .i64 (0)) ∨ (i = .int .i64 1 ∧ s = .int .i64 (G))) ∧ Below w5.heap.size w5 wr) (fun _ i _ => 1 - (intOf i).toNat)
        case atStart => exact ⟨.inl ⟨rfl, rfl⟩, Below.refl _ _⟩
        case round =>
          obtain ⟨hst, hb⟩ := hrel
          have HBr := Lib.hid (below_step HB5.out hb)
          have HBR := Lib.hid hb
          have hblr : b1' < wr.heap.size := by have := hb.size; omega
          have r0 := (hb.cell (p := ⟨b1', o1, none⟩) hb1l).trans e0
          have d1r := (hb.cell (p := ⟨w.heap.size, 1, none⟩) z50).trans d15
          have q0 : w.heap.size < wr.heap.size := by have := hb.size; omega
          clear hb
          rcases hst with ⟨rfl, rfl⟩ | ⟨rfl, rfl⟩
          · obtain ⟨b', off, rfl, hbl, hcl⟩ := HEL.out 0 (by omega)
            have hcr : ∀ o, wr.cell? ⟨b', o, none⟩ = w.cell? ⟨b', o, none⟩ := fun o => (HBr.out).cell (p := ⟨_, _, none⟩) hbl
            have c0 : wr.cell? ⟨b', off, none⟩ = some (.string (cr 0)) := (hcr _).trans (by have := (hcl 0 (by omega)).1; simpa using this)
            have c3 : wr.cell? ⟨b', off + 3, none⟩ = some (.int .i64 (hr 0)) := (hcr _).trans (by have := (hcl 0 (by omega)).2.2.2; simpa using this)
            have hbr : b' < wr.heap.size := by have := HBr.out.size; omega
            clear hcl hcr
            obtain ⟨FF, hFF⟩ : ∃ FF, findF nc nm (cr 0) = FF := ⟨_, rfl⟩
            have HFF := Lib.hid hFF
            have hfok := (QH.out 0 (by omega) (by omega)).1
            rw [hFF] at hfok
            have k9 : decide (FF < nc) = true := decide_eq_true hfok
            obtain ⟨CL, hCL⟩ : ∃ CL, loadF (findLen nc rn FF) (rr FF) (qq FF) (hr 0) = CL := ⟨_, rfl⟩
            have HCL := Lib.hid hCL
            have hle : G ≤ CL := by
              have h9 : G ≤ craneL nc nm rn rr qq (cr 0) (hr 0) := QO.out 0 (by omega) (by omega)
              unfold craneL at h9
              rw [hFF, hCL] at h9
              exact h9
            have hov : decide (loadF (findLen nc rn FF) (rr FF) (qq FF) (hr 0) < G) = false := decide_eq_false (by rw [hCL]; omega)
            have hneg : decide (G < 0) = false := decide_eq_false (by omega)
            clear hFF hCL
            go_wp2_with fail
            (go_at_call 10; refine (find_any _ _ _ _ _ _ _ _ _ (HC.out.below HBr.out) HSM.out).mono ?_; rintro e w6 ⟨sv, rfl, hp, hb⟩)
            rw [HFF.out] at hp ⊢
            obtain ⟨osv, csv, rfl, -, -⟩ := hp.form
            have HP := Lib.hid hp
            rw [k9]
            have hs6 := hb.size
            have z60 : w.heap.size < w6.heap.size := by omega
            have zb6 : b' < w6.heap.size := by omega
            have zbl6 : b1' < w6.heap.size := by omega
            have d16 := (hb.cell (p := ⟨w.heap.size, 1, none⟩) q0).trans d1r
            have c06 := (hb.cell (p := ⟨b', off, none⟩) hbr).trans c0
            have c36 := (hb.cell (p := ⟨b', off + 3, none⟩) hbr).trans c3
            have r06 := (hb.cell (p := ⟨b1', o1, none⟩) hblr).trans r0
            have HBQ := Lib.hid (below_step HBR.out hb)
            clear hb hp hs6
            have u1 : b1' ≠ w6.heap.size := by omega
            have u2 : b' ≠ w6.heap.size := by omega
            have u3 : w.heap.size ≠ w6.heap.size := by omega
            have u4 : b1' < w6.heap.size + 1 := by omega
            have u5 : b' < w6.heap.size + 1 := by omega
            have u6 : w.heap.size < w6.heap.size + 1 := by omega
            have hpc := past_cell
            go_wp2_with fail
            refine wp_region_past (by kernel_rfl) (by kernel_rfl) ?_
            iterate 14 go_big_quiet_step (fail)
            go_big_quiet_step ((go_at_call 11; exact past_of (load_any _ _ _ _ _ _ _ ((HP.out.below ((Below.refl w6.heap.size w6).alloc (Nat.le_refl _) _)).below (Past.h _)))))
            iterate 27 go_big_quiet_step (fail)
            refine wpQuiet_nil ?_
            intro w7 hw'
            have hb1 := past_out hw'
            clear hw'
            have z7b : b1' < w7.heap.size := by have := hb1.size; (try simp only [World.size_alloc] at this); omega
            have r07 : w7.cell? ⟨b1', o1, none⟩ = some (.int .i64 G) := (hb1.cell (p := ⟨_, _, none⟩) (by simp <;> omega)).trans ((World.cell?_alloc_lt _ _ _ zbl6).trans r06)
            have HB7 : Hid (Below w5.heap.size w5 w7) := by
              show Below _ _ _
              exact below_step (HBQ.out.alloc HBQ.out.size _) hb1
            clear hb1
            (try rw [HCL.out])
            go_wp2
            go_roundw
            case rel => exact ⟨.inr (⟨rfl, by first | rfl | go_num⟩), HB7.out⟩
            case measure => simp [intOf]
          · go_wp2
            go_returns
            exact ⟨rfl, HBr.out⟩
      · have hl1 : L = [a, b] := hl1
        subst hl1
        go_enter Tryd.func3, Tryd.ntmps3
        go_wp2_with fail
        (go_at_call 4; refine (rcheck_any _ _ _ _ _ _ _ _ (HC.out.below (((Below.refl w.heap.size w).alloc (Nat.le_refl _) _).alloc (by simp) _))).mono ?_; rintro e w1 ⟨rfl, hb⟩)
        rw [HCK.out]
        have hs1 := hb.size
        (try simp only [World.size_alloc, World.size_setCell] at hs1)
        have z10 : w.heap.size < w1.heap.size := by omega
        have z11 : w.heap.size + 1 < w1.heap.size := by omega
        have d01 : w1.cell? ⟨w.heap.size, 0, none⟩ = some (.string blk) := (hb.cell (p := ⟨_, _, none⟩) (by simp <;> omega)).trans (by simp [go_sem])
        have d11 : w1.cell? ⟨w.heap.size, 1, none⟩ = some (.slice oa 2 cap) := (hb.cell (p := ⟨_, _, none⟩) (by simp <;> omega)).trans (by simp [go_sem])
        have c01 : w1.cell? ⟨w.heap.size + 1, 0, none⟩ = some (.int .i64 m) := (hb.cell (p := ⟨_, _, none⟩) (by simp <;> omega)).trans (by simp [go_sem])
        have c11 : w1.cell? ⟨w.heap.size + 1, 1, none⟩ = some (.int .i64 x) := (hb.cell (p := ⟨_, _, none⟩) (by simp <;> omega)).trans (by simp [go_sem])
        have c21 : w1.cell? ⟨w.heap.size + 1, 2, none⟩ = some (.int .i64 y) := (hb.cell (p := ⟨_, _, none⟩) (by simp <;> omega)).trans (by simp [go_sem])
        have c31 : w1.cell? ⟨w.heap.size + 1, 3, none⟩ = some (.int .i64 z) := (hb.cell (p := ⟨_, _, none⟩) (by simp <;> omega)).trans (by simp [go_sem])
        have c41 : w1.cell? ⟨w.heap.size + 1, 4, none⟩ = some (.int .i64 v) := (hb.cell (p := ⟨_, _, none⟩) (by simp <;> omega)).trans (by simp [go_sem])
        have HB1 : Hid (Below w.heap.size w w1) := by
          show Below _ _ _
          exact below_step (w := w) (by go_grown) hb
        clear hb hs1
        go_wp2_with fail
        (go_at_call 5; refine (lift_any blk _ 2 cr hx hy hr m x y z v _ nc nm _ rn rr qq _ (by omega) (HM.out.below HB1.out) (HH.out.below HB1.out) (HC.out.below HB1.out) HSM.out).mono ?_; rintro e w2 ⟨rfl, hb⟩)
        rw [HK.out]
        have hs2 := hb.size
        (try simp only [World.size_alloc, World.size_setCell] at hs2)
        have z20 : w.heap.size < w2.heap.size := by omega
        have z21 : w.heap.size + 1 < w2.heap.size := by omega
        have d02 : w2.cell? ⟨w.heap.size, 0, none⟩ = some (.string blk) := (hb.cell (p := ⟨_, _, none⟩) z10).trans d01
        have d12 : w2.cell? ⟨w.heap.size, 1, none⟩ = some (.slice oa 2 cap) := (hb.cell (p := ⟨_, _, none⟩) z10).trans d11
        have c02 : w2.cell? ⟨w.heap.size + 1, 0, none⟩ = some (.int .i64 m) := (hb.cell (p := ⟨_, _, none⟩) z11).trans c01
        have c12 : w2.cell? ⟨w.heap.size + 1, 1, none⟩ = some (.int .i64 x) := (hb.cell (p := ⟨_, _, none⟩) z11).trans c11
        have c22 : w2.cell? ⟨w.heap.size + 1, 2, none⟩ = some (.int .i64 y) := (hb.cell (p := ⟨_, _, none⟩) z11).trans c21
        have c32 : w2.cell? ⟨w.heap.size + 1, 3, none⟩ = some (.int .i64 z) := (hb.cell (p := ⟨_, _, none⟩) z11).trans c31
        have c42 : w2.cell? ⟨w.heap.size + 1, 4, none⟩ = some (.int .i64 v) := (hb.cell (p := ⟨_, _, none⟩) z11).trans c41
        have HB2 : Hid (Below w.heap.size w w2) := by
          show Below _ _ _
          exact below_step HB1.out hb
        clear hb hs2
        go_wp2_with fail
        (go_at_call 7; refine (loads_any blk _ 2 cr hx hy hr m x y z v _ (HH.out.below HB2.out)).mono ?_; rintro e w3 ⟨lv, rfl, hlv, -, hb⟩)
        rw [HL.out] at hlv ⊢
        have HLV := Lib.hid hlv
        obtain ⟨ol, cl, rfl, -, -⟩ := hlv.form
        clear hlv
        have hs3 := hb.size
        (try simp only [World.size_alloc, World.size_setCell] at hs3)
        have z30 : w.heap.size < w3.heap.size := by omega
        have z31 : w.heap.size + 1 < w3.heap.size := by omega
        have d03 : w3.cell? ⟨w.heap.size, 0, none⟩ = some (.string blk) := (hb.cell (p := ⟨_, _, none⟩) z20).trans d02
        have d13 : w3.cell? ⟨w.heap.size, 1, none⟩ = some (.slice oa 2 cap) := (hb.cell (p := ⟨_, _, none⟩) z20).trans d12
        have c03 : w3.cell? ⟨w.heap.size + 1, 0, none⟩ = some (.int .i64 m) := (hb.cell (p := ⟨_, _, none⟩) z21).trans c02
        have c13 : w3.cell? ⟨w.heap.size + 1, 1, none⟩ = some (.int .i64 x) := (hb.cell (p := ⟨_, _, none⟩) z21).trans c12
        have c23 : w3.cell? ⟨w.heap.size + 1, 2, none⟩ = some (.int .i64 y) := (hb.cell (p := ⟨_, _, none⟩) z21).trans c22
        have c33 : w3.cell? ⟨w.heap.size + 1, 3, none⟩ = some (.int .i64 z) := (hb.cell (p := ⟨_, _, none⟩) z21).trans c32
        have c43 : w3.cell? ⟨w.heap.size + 1, 4, none⟩ = some (.int .i64 v) := (hb.cell (p := ⟨_, _, none⟩) z21).trans c42
        have HLV3 := HLV
        have HB3 : Hid (Below w.heap.size w w3) := by
          show Below _ _ _
          exact below_step HB2.out hb
        clear hb hs3
        go_wp2_with fail
        (go_at_call 8; refine (gross_any _ _ _ _ _ _).mono ?_; rintro e w4 ⟨rfl, hb⟩)
        rw [HG.out]
        have hs4 := hb.size
        (try simp only [World.size_alloc, World.size_setCell] at hs4)
        have z40 : w.heap.size < w4.heap.size := by omega
        have z41 : w.heap.size + 1 < w4.heap.size := by omega
        have d04 : w4.cell? ⟨w.heap.size, 0, none⟩ = some (.string blk) := (hb.cell (p := ⟨_, _, none⟩) z30).trans d03
        have d14 : w4.cell? ⟨w.heap.size, 1, none⟩ = some (.slice oa 2 cap) := (hb.cell (p := ⟨_, _, none⟩) z30).trans d13
        have c04 : w4.cell? ⟨w.heap.size + 1, 0, none⟩ = some (.int .i64 m) := (hb.cell (p := ⟨_, _, none⟩) z31).trans c03
        have c14 : w4.cell? ⟨w.heap.size + 1, 1, none⟩ = some (.int .i64 x) := (hb.cell (p := ⟨_, _, none⟩) z31).trans c13
        have c24 : w4.cell? ⟨w.heap.size + 1, 2, none⟩ = some (.int .i64 y) := (hb.cell (p := ⟨_, _, none⟩) z31).trans c23
        have c34 : w4.cell? ⟨w.heap.size + 1, 3, none⟩ = some (.int .i64 z) := (hb.cell (p := ⟨_, _, none⟩) z31).trans c33
        have c44 : w4.cell? ⟨w.heap.size + 1, 4, none⟩ = some (.int .i64 v) := (hb.cell (p := ⟨_, _, none⟩) z31).trans c43
        have HV4 := Lib.hid (HLV.out.below hb)
        have HB4 : Hid (Below w.heap.size w w4) := by
          show Below _ _ _
          exact below_step HB3.out hb
        clear hb hs4
        go_wp2_with fail
        (go_at_call 9; refine (margin_ok _ HWK.out HS.out).mono ?_; rintro e w5 ⟨rfl, hb⟩)
        have hs5 := hb.size
        (try simp only [World.size_alloc, World.size_setCell] at hs5)
        have z50 : w.heap.size < w5.heap.size := by omega
        have z51 : w.heap.size + 1 < w5.heap.size := by omega
        have d05 : w5.cell? ⟨w.heap.size, 0, none⟩ = some (.string blk) := (hb.cell (p := ⟨_, _, none⟩) z40).trans d04
        have d15 : w5.cell? ⟨w.heap.size, 1, none⟩ = some (.slice oa 2 cap) := (hb.cell (p := ⟨_, _, none⟩) z40).trans d14
        have c05 : w5.cell? ⟨w.heap.size + 1, 0, none⟩ = some (.int .i64 m) := (hb.cell (p := ⟨_, _, none⟩) z41).trans c04
        have c15 : w5.cell? ⟨w.heap.size + 1, 1, none⟩ = some (.int .i64 x) := (hb.cell (p := ⟨_, _, none⟩) z41).trans c14
        have c25 : w5.cell? ⟨w.heap.size + 1, 2, none⟩ = some (.int .i64 y) := (hb.cell (p := ⟨_, _, none⟩) z41).trans c24
        have c35 : w5.cell? ⟨w.heap.size + 1, 3, none⟩ = some (.int .i64 z) := (hb.cell (p := ⟨_, _, none⟩) z41).trans c34
        have c45 : w5.cell? ⟨w.heap.size + 1, 4, none⟩ = some (.int .i64 v) := (hb.cell (p := ⟨_, _, none⟩) z41).trans c44
        have HV5 := Lib.hid (HV4.out.below hb)
        have HB5 : Hid (Below w.heap.size w w5) := by
          show Below _ _ _
          exact below_step HB4.out hb
        clear hb hs5
        obtain ⟨ol', cl', hf', -, hll⟩ := HV5.out.form
        cases hf'
        obtain ⟨b1', o1, rfl, hb1l, hc1⟩ := hll 0 (by simp)
        have e0 : w5.cell? ⟨b1', o1, none⟩ = some (.int .i64 a) := hc1 0 (by simp)
        have e1 : w5.cell? ⟨b1', o1 + 1, none⟩ = some (.int .i64 b) := hc1 1 (by simp)
        have y0 : decide (G ≤ a + b) = true := decide_eq_true (by omega)
        have y1 : decide (a + b ≤ G + 1) = true := decide_eq_true (by omega)
        have y2 : IntKind.i64.wrap (G + 1) = G + 1 := IntWalk.i64_in _ (by omega)
        clear hc1 hll
        simp only [List.length_cons, List.length_nil]
        go_wp2
        go_loopw [13, 14] (fun s i wr => ((i = .int .i64 0 ∧ s = .int .i64 (0)) ∨ (i = .int .i64 1 ∧ s = .int .i64 (a)) ∨ (i = .int .i64 2 ∧ s = .int .i64 (a + b))) ∧ Below w5.heap.size w5 wr) (fun _ i _ => 2 - (intOf i).toNat)
        case atStart => exact ⟨.inl ⟨rfl, rfl⟩, Below.refl _ _⟩
        case round =>
          obtain ⟨hst, hb⟩ := hrel
          have HBr := Lib.hid (below_step HB5.out hb)
          have HBR := Lib.hid hb
          have hblr : b1' < wr.heap.size := by have := hb.size; omega
          have r0 := (hb.cell (p := ⟨b1', o1, none⟩) hb1l).trans e0
          have r1 := (hb.cell (p := ⟨b1', o1 + 1, none⟩) hb1l).trans e1
          have d1r := (hb.cell (p := ⟨w.heap.size, 1, none⟩) z50).trans d15
          have q0 : w.heap.size < wr.heap.size := by have := hb.size; omega
          clear hb
          rcases hst with ⟨rfl, rfl⟩ | ⟨rfl, rfl⟩ | ⟨rfl, rfl⟩
          · obtain ⟨b', off, rfl, hbl, hcl⟩ := HEL.out 0 (by omega)
            have hcr : ∀ o, wr.cell? ⟨b', o, none⟩ = w.cell? ⟨b', o, none⟩ := fun o => (HBr.out).cell (p := ⟨_, _, none⟩) hbl
            have c0 : wr.cell? ⟨b', off, none⟩ = some (.string (cr 0)) := (hcr _).trans (by have := (hcl 0 (by omega)).1; simpa using this)
            have c3 : wr.cell? ⟨b', off + 3, none⟩ = some (.int .i64 (hr 0)) := (hcr _).trans (by have := (hcl 0 (by omega)).2.2.2; simpa using this)
            have hbr : b' < wr.heap.size := by have := HBr.out.size; omega
            clear hcl hcr
            obtain ⟨FF, hFF⟩ : ∃ FF, findF nc nm (cr 0) = FF := ⟨_, rfl⟩
            have HFF := Lib.hid hFF
            have hfok := (QH.out 0 (by omega) (by omega)).1
            rw [hFF] at hfok
            have k9 : decide (FF < nc) = true := decide_eq_true hfok
            obtain ⟨CL, hCL⟩ : ∃ CL, loadF (findLen nc rn FF) (rr FF) (qq FF) (hr 0) = CL := ⟨_, rfl⟩
            have HCL := Lib.hid hCL
            have hle : a ≤ CL := by
              have h9 : a ≤ craneL nc nm rn rr qq (cr 0) (hr 0) := QO.out 0 (by omega) (by omega)
              unfold craneL at h9
              rw [hFF, hCL] at h9
              exact h9
            have hov : decide (loadF (findLen nc rn FF) (rr FF) (qq FF) (hr 0) < a) = false := decide_eq_false (by rw [hCL]; omega)
            have hneg : decide (a < 0) = false := decide_eq_false (by omega)
            clear hFF hCL
            go_wp2_with fail
            (go_at_call 10; refine (find_any _ _ _ _ _ _ _ _ _ (HC.out.below HBr.out) HSM.out).mono ?_; rintro e w6 ⟨sv, rfl, hp, hb⟩)
            rw [HFF.out] at hp ⊢
            obtain ⟨osv, csv, rfl, -, -⟩ := hp.form
            have HP := Lib.hid hp
            rw [k9]
            have hs6 := hb.size
            have z60 : w.heap.size < w6.heap.size := by omega
            have zb6 : b' < w6.heap.size := by omega
            have zbl6 : b1' < w6.heap.size := by omega
            have d16 := (hb.cell (p := ⟨w.heap.size, 1, none⟩) q0).trans d1r
            have c06 := (hb.cell (p := ⟨b', off, none⟩) hbr).trans c0
            have c36 := (hb.cell (p := ⟨b', off + 3, none⟩) hbr).trans c3
            have r06 := (hb.cell (p := ⟨b1', o1, none⟩) hblr).trans r0
            have r16 := (hb.cell (p := ⟨b1', o1 + 1, none⟩) hblr).trans r1
            have HBQ := Lib.hid (below_step HBR.out hb)
            clear hb hp hs6
            have u1 : b1' ≠ w6.heap.size := by omega
            have u2 : b' ≠ w6.heap.size := by omega
            have u3 : w.heap.size ≠ w6.heap.size := by omega
            have u4 : b1' < w6.heap.size + 1 := by omega
            have u5 : b' < w6.heap.size + 1 := by omega
            have u6 : w.heap.size < w6.heap.size + 1 := by omega
            have hpc := past_cell
            go_wp2_with fail
            refine wp_region_past (by kernel_rfl) (by kernel_rfl) ?_
            iterate 14 go_big_quiet_step (fail)
            go_big_quiet_step ((go_at_call 11; exact past_of (load_any _ _ _ _ _ _ _ ((HP.out.below ((Below.refl w6.heap.size w6).alloc (Nat.le_refl _) _)).below (Past.h _)))))
            iterate 27 go_big_quiet_step (fail)
            refine wpQuiet_nil ?_
            intro w7 hw'
            have hb1 := past_out hw'
            clear hw'
            have z7b : b1' < w7.heap.size := by have := hb1.size; (try simp only [World.size_alloc] at this); omega
            have r07 : w7.cell? ⟨b1', o1, none⟩ = some (.int .i64 a) := (hb1.cell (p := ⟨_, _, none⟩) (by simp <;> omega)).trans ((World.cell?_alloc_lt _ _ _ zbl6).trans r06)
            have r17 : w7.cell? ⟨b1', o1 + 1, none⟩ = some (.int .i64 b) := (hb1.cell (p := ⟨_, _, none⟩) (by simp <;> omega)).trans ((World.cell?_alloc_lt _ _ _ zbl6).trans r16)
            have HB7 : Hid (Below w5.heap.size w5 w7) := by
              show Below _ _ _
              exact below_step (HBQ.out.alloc HBQ.out.size _) hb1
            clear hb1
            (try rw [HCL.out])
            go_wp2
            go_roundw
            case rel => exact ⟨.inr (.inl ⟨rfl, by first | rfl | go_num⟩), HB7.out⟩
            case measure => simp [intOf]
          · obtain ⟨b', off, rfl, hbl, hcl⟩ := HEL.out 1 (by omega)
            have hcr : ∀ o, wr.cell? ⟨b', o, none⟩ = w.cell? ⟨b', o, none⟩ := fun o => (HBr.out).cell (p := ⟨_, _, none⟩) hbl
            have c0 : wr.cell? ⟨b', off + 4, none⟩ = some (.string (cr 1)) := (hcr _).trans (by have := (hcl 1 (by omega)).1; simpa using this)
            have c3 : wr.cell? ⟨b', off + 4 + 3, none⟩ = some (.int .i64 (hr 1)) := (hcr _).trans (by have := (hcl 1 (by omega)).2.2.2; simpa using this)
            have x0 : wr.cell? ⟨b', off, none⟩ = some (.string (cr 0)) := (hcr _).trans (by have := (hcl 0 (by omega)).1; simpa using this)
            have hne : ((cr 1).toList == (cr 0).toList) = false := (QH.out 1 (by omega) (by omega)).2 (by omega)
            have hbr : b' < wr.heap.size := by have := HBr.out.size; omega
            clear hcl hcr
            obtain ⟨FF, hFF⟩ : ∃ FF, findF nc nm (cr 1) = FF := ⟨_, rfl⟩
            have HFF := Lib.hid hFF
            have hfok := (QH.out 1 (by omega) (by omega)).1
            rw [hFF] at hfok
            have k9 : decide (FF < nc) = true := decide_eq_true hfok
            obtain ⟨CL, hCL⟩ : ∃ CL, loadF (findLen nc rn FF) (rr FF) (qq FF) (hr 1) = CL := ⟨_, rfl⟩
            have HCL := Lib.hid hCL
            have hle : b ≤ CL := by
              have h9 : b ≤ craneL nc nm rn rr qq (cr 1) (hr 1) := QO.out 1 (by omega) (by omega)
              unfold craneL at h9
              rw [hFF, hCL] at h9
              exact h9
            have hov : decide (loadF (findLen nc rn FF) (rr FF) (qq FF) (hr 1) < b) = false := decide_eq_false (by rw [hCL]; omega)
            have hneg : decide (b < 0) = false := decide_eq_false (by omega)
            clear hFF hCL
            go_wp2_with fail
            (go_at_call 10; refine (find_any _ _ _ _ _ _ _ _ _ (HC.out.below HBr.out) HSM.out).mono ?_; rintro e w6 ⟨sv, rfl, hp, hb⟩)
            rw [HFF.out] at hp ⊢
            obtain ⟨osv, csv, rfl, -, -⟩ := hp.form
            have HP := Lib.hid hp
            rw [k9]
            have hs6 := hb.size
            have z60 : w.heap.size < w6.heap.size := by omega
            have zb6 : b' < w6.heap.size := by omega
            have zbl6 : b1' < w6.heap.size := by omega
            have d16 := (hb.cell (p := ⟨w.heap.size, 1, none⟩) q0).trans d1r
            have c06 := (hb.cell (p := ⟨b', off + 4, none⟩) hbr).trans c0
            have c36 := (hb.cell (p := ⟨b', off + 4 + 3, none⟩) hbr).trans c3
            have x06 := (hb.cell (p := ⟨b', off, none⟩) hbr).trans x0
            have r06 := (hb.cell (p := ⟨b1', o1, none⟩) hblr).trans r0
            have r16 := (hb.cell (p := ⟨b1', o1 + 1, none⟩) hblr).trans r1
            have HBQ := Lib.hid (below_step HBR.out hb)
            clear hb hp hs6
            have u1 : b1' ≠ w6.heap.size := by omega
            have u2 : b' ≠ w6.heap.size := by omega
            have u3 : w.heap.size ≠ w6.heap.size := by omega
            have u4 : b1' < w6.heap.size + 1 := by omega
            have u5 : b' < w6.heap.size + 1 := by omega
            have u6 : w.heap.size < w6.heap.size + 1 := by omega
            have hpc := past_cell
            go_wp2_with fail
            refine wp_region_past (by kernel_rfl) (by kernel_rfl) ?_
            iterate 14 go_big_quiet_step (fail)
            go_big_quiet_step ((go_at_call 11; exact past_of (load_any _ _ _ _ _ _ _ ((HP.out.below ((Below.refl w6.heap.size w6).alloc (Nat.le_refl _) _)).below (Past.h _)))))
            iterate 27 go_big_quiet_step (fail)
            refine wpQuiet_nil ?_
            intro w7 hw'
            have hb1 := past_out hw'
            clear hw'
            have z7b : b1' < w7.heap.size := by have := hb1.size; (try simp only [World.size_alloc] at this); omega
            have r07 : w7.cell? ⟨b1', o1, none⟩ = some (.int .i64 a) := (hb1.cell (p := ⟨_, _, none⟩) (by simp <;> omega)).trans ((World.cell?_alloc_lt _ _ _ zbl6).trans r06)
            have r17 : w7.cell? ⟨b1', o1 + 1, none⟩ = some (.int .i64 b) := (hb1.cell (p := ⟨_, _, none⟩) (by simp <;> omega)).trans ((World.cell?_alloc_lt _ _ _ zbl6).trans r16)
            have HB7 : Hid (Below w5.heap.size w5 w7) := by
              show Below _ _ _
              exact below_step (HBQ.out.alloc HBQ.out.size _) hb1
            clear hb1
            (try rw [HCL.out])
            go_wp2
            go_roundw
            case rel => exact ⟨.inr (.inr (⟨rfl, by first | rfl | go_num⟩)), HB7.out⟩
            case measure => simp [intOf]
          · go_wp2
            go_returns
            exact ⟨rfl, HBr.out⟩
    · have k0 : (K != 0) = true := by simpa using hk0
      clear hk0
      go_enter Tryd.func3, Tryd.ntmps3
      go_wp2_with fail
      (go_at_call 4; refine (rcheck_any _ _ _ _ _ _ _ _ (HC.out.below (((Below.refl w.heap.size w).alloc (Nat.le_refl _) _).alloc (by simp) _))).mono ?_; rintro e w1 ⟨rfl, hb⟩)
      rw [HCK.out]
      have hs1 := hb.size
      (try simp only [World.size_alloc, World.size_setCell] at hs1)
      have z10 : w.heap.size < w1.heap.size := by omega
      have z11 : w.heap.size + 1 < w1.heap.size := by omega
      have d01 : w1.cell? ⟨w.heap.size, 0, none⟩ = some (.string blk) := (hb.cell (p := ⟨_, _, none⟩) (by simp <;> omega)).trans (by simp [go_sem])
      have d11 : w1.cell? ⟨w.heap.size, 1, none⟩ = some (.slice oa n cap) := (hb.cell (p := ⟨_, _, none⟩) (by simp <;> omega)).trans (by simp [go_sem])
      have c01 : w1.cell? ⟨w.heap.size + 1, 0, none⟩ = some (.int .i64 m) := (hb.cell (p := ⟨_, _, none⟩) (by simp <;> omega)).trans (by simp [go_sem])
      have c11 : w1.cell? ⟨w.heap.size + 1, 1, none⟩ = some (.int .i64 x) := (hb.cell (p := ⟨_, _, none⟩) (by simp <;> omega)).trans (by simp [go_sem])
      have c21 : w1.cell? ⟨w.heap.size + 1, 2, none⟩ = some (.int .i64 y) := (hb.cell (p := ⟨_, _, none⟩) (by simp <;> omega)).trans (by simp [go_sem])
      have c31 : w1.cell? ⟨w.heap.size + 1, 3, none⟩ = some (.int .i64 z) := (hb.cell (p := ⟨_, _, none⟩) (by simp <;> omega)).trans (by simp [go_sem])
      have c41 : w1.cell? ⟨w.heap.size + 1, 4, none⟩ = some (.int .i64 v) := (hb.cell (p := ⟨_, _, none⟩) (by simp <;> omega)).trans (by simp [go_sem])
      have HB1 : Hid (Below w.heap.size w w1) := by
        show Below _ _ _
        exact below_step (w := w) (by go_grown) hb
      clear hb hs1
      go_wp2_with fail
      (go_at_call 5; refine (lift_any blk _ n cr hx hy hr m x y z v _ nc nm _ rn rr qq _ (by omega) (HM.out.below HB1.out) (HH.out.below HB1.out) (HC.out.below HB1.out) HSM.out).mono ?_; rintro e w2 ⟨rfl, hb⟩)
      rw [HK.out]
      have hs2 := hb.size
      (try simp only [World.size_alloc, World.size_setCell] at hs2)
      have z20 : w.heap.size < w2.heap.size := by omega
      have z21 : w.heap.size + 1 < w2.heap.size := by omega
      have d02 : w2.cell? ⟨w.heap.size, 0, none⟩ = some (.string blk) := (hb.cell (p := ⟨_, _, none⟩) z10).trans d01
      have d12 : w2.cell? ⟨w.heap.size, 1, none⟩ = some (.slice oa n cap) := (hb.cell (p := ⟨_, _, none⟩) z10).trans d11
      have c02 : w2.cell? ⟨w.heap.size + 1, 0, none⟩ = some (.int .i64 m) := (hb.cell (p := ⟨_, _, none⟩) z11).trans c01
      have c12 : w2.cell? ⟨w.heap.size + 1, 1, none⟩ = some (.int .i64 x) := (hb.cell (p := ⟨_, _, none⟩) z11).trans c11
      have c22 : w2.cell? ⟨w.heap.size + 1, 2, none⟩ = some (.int .i64 y) := (hb.cell (p := ⟨_, _, none⟩) z11).trans c21
      have c32 : w2.cell? ⟨w.heap.size + 1, 3, none⟩ = some (.int .i64 z) := (hb.cell (p := ⟨_, _, none⟩) z11).trans c31
      have c42 : w2.cell? ⟨w.heap.size + 1, 4, none⟩ = some (.int .i64 v) := (hb.cell (p := ⟨_, _, none⟩) z11).trans c41
      have HB2 : Hid (Below w.heap.size w w2) := by
        show Below _ _ _
        exact below_step HB1.out hb
      clear hb hs2
      go_wp2_with fail
      (go_at_call 6; refine (rlift_any blk _ n cr hx hy hr m x y z v _ nc nm _ rn rr qq _ (by omega) (HM.out.below HB2.out) (HH.out.below HB2.out) (HC.out.below HB2.out) HSM.out).mono ?_; rintro e w3 ⟨rfl, hb⟩)
      rw [HK.out]
      have hs3 := hb.size
      (try simp only [World.size_alloc, World.size_setCell] at hs3)
      have z30 : w.heap.size < w3.heap.size := by omega
      have z31 : w.heap.size + 1 < w3.heap.size := by omega
      have HB3 : Hid (Below w.heap.size w w3) := by
        show Below _ _ _
        exact below_step HB2.out hb
      clear hb hs3
      go_wp2
      go_returns
      exact ⟨rfl, HB3.out⟩
  · have k0 : (CK != 0) = true := by simpa using hck
    clear hck
    go_enter Tryd.func3, Tryd.ntmps3
    go_wp2_with fail
    (go_at_call 4; refine (rcheck_any _ _ _ _ _ _ _ _ (HC.out.below (((Below.refl w.heap.size w).alloc (Nat.le_refl _) _).alloc (by simp) _))).mono ?_; rintro e w1 ⟨rfl, hb⟩)
    rw [HCK.out]
    have hs1 := hb.size
    (try simp only [World.size_alloc, World.size_setCell] at hs1)
    have z10 : w.heap.size < w1.heap.size := by omega
    have z11 : w.heap.size + 1 < w1.heap.size := by omega
    have d01 : w1.cell? ⟨w.heap.size, 0, none⟩ = some (.string blk) := (hb.cell (p := ⟨_, _, none⟩) (by simp <;> omega)).trans (by simp [go_sem])
    have d11 : w1.cell? ⟨w.heap.size, 1, none⟩ = some (.slice oa n cap) := (hb.cell (p := ⟨_, _, none⟩) (by simp <;> omega)).trans (by simp [go_sem])
    have c01 : w1.cell? ⟨w.heap.size + 1, 0, none⟩ = some (.int .i64 m) := (hb.cell (p := ⟨_, _, none⟩) (by simp <;> omega)).trans (by simp [go_sem])
    have c11 : w1.cell? ⟨w.heap.size + 1, 1, none⟩ = some (.int .i64 x) := (hb.cell (p := ⟨_, _, none⟩) (by simp <;> omega)).trans (by simp [go_sem])
    have c21 : w1.cell? ⟨w.heap.size + 1, 2, none⟩ = some (.int .i64 y) := (hb.cell (p := ⟨_, _, none⟩) (by simp <;> omega)).trans (by simp [go_sem])
    have c31 : w1.cell? ⟨w.heap.size + 1, 3, none⟩ = some (.int .i64 z) := (hb.cell (p := ⟨_, _, none⟩) (by simp <;> omega)).trans (by simp [go_sem])
    have c41 : w1.cell? ⟨w.heap.size + 1, 4, none⟩ = some (.int .i64 v) := (hb.cell (p := ⟨_, _, none⟩) (by simp <;> omega)).trans (by simp [go_sem])
    have HB1 : Hid (Below w.heap.size w w1) := by
      show Below _ _ _
      exact below_step (w := w) (by go_grown) hb
    clear hb hs1
    go_wp2
    go_returns
    exact ⟨rfl, HB1.out⟩

set_option maxRecDepth 100000 in
theorem topLifts_contract (H : Type) (enc : TypeId × Value → H) (W : World) (base : Nat) (args : Array Value) (ds gs : List (DataW H)) (before : List MemPlace)
    (hval : ∀ (j : Nat) t v, Tryd.f3.params[j]? = some t → args[j]? = some v → Value.okWide Tryd.prog W .any base t v)
    (hW : DataW.Whole enc Tryd.prog Tryd.f3.params.toList Rows.topLiftsSpec.vars false W args.toList ds gs before) (hL : laidMetH Tryd.prog Rows.topLiftsUptoRow.laid W) (hSh : W.ShapedOpen Tryd.prog) (hk : Rows.uptoBulkAll (ds ++ gs) ≤ 1048576) :
    Calls Tryd.prog 3 args W fun e W' => ∃ v, e = .returned v ∧ Rows.topLiftsSpec.post enc Tryd.prog Tryd.f3 false true false false W args v W' := by
  have hW' := hW
  obtain ⟨p, q, hA0, hV, rfl, hfz, hnd⟩ := hW
  have hA : DataW.TrodAll enc Tryd.prog W 0 (fun _ => true) true Tryd.f3.params.toList args.toList ds p := hA0
  rw [Tryd.params3] at hA hval
  obtain ⟨v0, vs0, d0, ds0, p0, q0, hargs, rfl, rfl, h0, r0⟩ := trodAll_cons hA
  obtain ⟨v1, vs1, d1, ds1, p1, q1, rfl, rfl, rfl, h1, r1⟩ := trodAll_cons r0
  obtain ⟨v2, vs2, d2, ds2, p2, q2, rfl, rfl, rfl, h2, r2⟩ := trodAll_cons r1
  obtain ⟨rfl, rfl, rfl⟩ := trodAll_nil r2
  obtain rfl : args = #[v0, v1, v2] := by cases args; simp_all
  obtain ⟨blk, hv, n, cr, hx, hy, hr, rfl, hbk, hh⟩ := lift_arg (hval 0 24 v0 rfl rfl) h0
  have hbulk := blk_bulk h0
  obtain ⟨m, x, y, z, v, rfl⟩ := weight_arg (hval 1 26 v1 rfl rfl) h1
  obtain ⟨nc, nm, cw, rn, rr, qq, hcr⟩ := cranes_arg (hval 2 27 v2 rfl rfl) h2
  refine (topLifts_walk blk hv n cr hx hy hr m x y z v _ nc nm cw rn rr qq W (maxLen_of W hSh) (by simp only [List.cons_append, Rows.uptoBulkAll] at hk; omega) hh hcr).mono fun e W' ⟨he, hb⟩ => ?_
  subst he
  exact ⟨_, rfl, law_post laidOut (by kernel_rfl) (by kernel_rfl) Tryd.underlying4 rfl hW' (fun _ => rfl) hb⟩
theorem topLifts_laid (os : Os) : laidMet Tryd.prog Rows.topLiftsUptoRow.laid ((laidWorld os).forCall (fun _ _ => 0) ⟨#[], #[.agg #[.string ⟨#[]⟩, .slice none 0 0], .agg #[.int .i64 0, .int .i64 0, .int .i64 0, .int .i64 0, .int .i64 0], .slice none 0 0], []⟩).memory := laidMet_of_run' 8 (by kernel_rfl) (by kernel_rfl)
theorem topLifts_reads (os : Os) {H : Type} (enc : TypeId × Value → H) : ∃ places, DataW.whole enc Tryd.prog ((laidWorld os).forCall (fun _ _ => 0) ⟨#[], #[.agg #[.string ⟨#[]⟩, .slice none 0 0], .agg #[.int .i64 0, .int .i64 0, .int .i64 0, .int .i64 0, .int .i64 0], .slice none 0 0], []⟩).memory Tryd.f3.params.toList Rows.topLiftsSpec.vars false (#[.agg #[.string ⟨#[]⟩, .slice none 0 0], .agg #[.int .i64 0, .int .i64 0, .int .i64 0, .int .i64 0, .int .i64 0], .slice none 0 0] : Array Value).toList 8 = some ([.agg [.lit (.string []), .nil], .agg [.lit (.int .i64 0), .lit (.int .i64 0), .lit (.int .i64 0), .lit (.int .i64 0), .lit (.int .i64 0)], .nil], [], places) := ⟨[], by kernel_rfl⟩
set_option maxRecDepth 100000 in
theorem topLifts_lifted (os : Os) (started : os.Started) (H : Type) (enc : TypeId × Value → H) (F : Stop.Interp) :
    ReturnsInHanded {} Tryd.checked os 3 .any ((Rows.OpenSpec.upto Rows.topLiftsSpec).preRow enc Tryd.prog Tryd.f3 Rows.topLiftsUptoRow.domain false Rows.topLiftsUptoRow.laid) (((Rows.OpenSpec.upto Rows.topLiftsSpec).at F).post enc Tryd.prog Tryd.f3 false true false false) := by
  obtain ⟨places, hx⟩ := topLifts_reads os enc
  refine returnsInHanded_of_row (C := Tryd.checked) (s := Rows.OpenSpec.upto Rows.topLiftsSpec) own started (by kernel_rfl) Tryd.func3
    (witness_row_at (enc := enc) (C := Tryd.checked) false (laidWorld os) #[.agg #[.string ⟨#[]⟩, .slice none 0 0], .agg #[.int .i64 0, .int .i64 0, .int .i64 0, .int .i64 0, .int .i64 0], .slice none 0 0] rfl (by kernel_rfl) (by kernel_rfl) (by kernel_rfl)
      (OpenSpec.preRow_of_cond 8 hx (by kernel_rfl) (fun k hk => by cases hk; kernel_rfl) (by kernel_rfl) (topLifts_laid os))) ?_
  intro W base args ds gs before hval hW _ hcond _ hL hSh _
  exact topLifts_contract H enc W base args ds gs before hval hW hL hSh (of_decide_eq_true (hcond _ rfl))
theorem topLifts_said : Rows.TopLiftsUptoSaid :=
  OpenClaim.holds_of_cond 3 Tryd.f3 rfl rfl rfl rfl rfl rfl rfl ⟨rfl, rfl, rfl, rfl, rfl⟩ rfl rfl rfl rfl rfl (by kernel_rfl) Tryd.func3 (by kernel_rfl)
    (of_decide_eq_true (by kernel_rfl)) (by unfold Func.isWrapper; rw [if_neg (of_decide_eq_false (by kernel_rfl))]; exact ⟨rfl, rfl⟩)
    (fun os started H enc _ F => by rw [OpenClaim.pre_eq_preRow]; exact topLifts_lifted os started H enc F)
theorem topLifts_plain (f : FuncId) (fn : Func) (hf : Tryd.pinned.checked.prog.funcNamed "shipyard/shipyardtop.TopLifts" = some f) (hfn : Tryd.pinned.checked.prog.funcs[f]? = some fn) :
    false = Tryd.pinned.checked.prog.looks [] ∧ ∀ (j : Nat) t, fn.params[j]? = some t → Tryd.pinned.checked.prog.wantsStandIn t = false := by
  obtain rfl : f = 3 := Option.some.inj ((show Tryd.prog.funcNamed "shipyard/shipyardtop.TopLifts" = some 3 by kernel_rfl).symm.trans hf) |>.symm
  obtain rfl : fn = Tryd.f3 := (Option.some.inj (Tryd.func3.symm.trans hfn)).symm
  refine ⟨by kernel_rfl, fun j t ht => ?_⟩
  rw [Tryd.params3] at ht
  have hm : t ∈ [24, 26, 27] := by simpa using Array.mem_of_getElem? ht
  have hall : ([24, 26, 27].all fun u => !Tryd.prog.wantsStandIn u) = true := by kernel_rfl
  exact (show Tryd.prog.wantsStandIn t = false by simpa using List.all_eq_true.1 hall t hm)
/-- the card -/
theorem topLifts_card : Rows.TopLiftsUptoCardSaid :=
  Claim7.holds_tied_plain_at .later [] _ _ _ _ topLifts_said (fun _ h => by cases h) (by kernel_rfl) (fun _ h => by cases h) topLiftsUpto_row_tie rfl ⟨rfl, rfl⟩ (by kernel_rfl) rfl topLifts_plain (by kernel_rfl)
#print axioms topLifts_card
end Go.Proofs.YtbfbifogamlepaaDoor
