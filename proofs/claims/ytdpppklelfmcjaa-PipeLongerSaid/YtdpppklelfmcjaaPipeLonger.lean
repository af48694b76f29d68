/-
  The law PipeLonger. Conditions: none. By an AI agent.
-/
import Derived.Test.YtdpppklelfmcjaaPipeQ
import Derived.Test.YtdpppklelfmcjaaPipeBends
import Derived.Test.YtdpppklelfmcjaaOpen
import Derived.Test.YtdpppklelfmcjaaRows
namespace Go.Proofs.Ytdpppklelfmcjaa
open Go Go.ChangeShapes Go.WideShapes Go.RowKit Go.ChangeAt
set_option linter.unusedSimpArgs false
set_option linter.unusedVariables false

theorem info_vec : (Try.prog.info? 40).map (fun i => (i.zero, i.size, i.bytes)) = some (some (.agg #[.int .i64 0, .int .i64 0, .int .i64 0]), 3, 24) := by kernel_rfl
theorem addr_add (b off j : Nat) : (⟨b, off, none⟩ : Addr).add j = ⟨b, off + j, none⟩ := by unfold Addr.add; split <;> simp_all
/-- what is appended to nothing owns a row -/
theorem owns_row {w : World} {base : Nat} {e : TypeId} {size : Nat} {v : Value} {n : Nat} {xs : List Value} (h : w.ownsRow base e size v n xs) (hn : 0 < n) : ∃ g cap cur, v = .slice (some ⟨g, 0, none⟩) n cap ∧ base ≤ g ∧ w.heap[g]? = some (.cells cur e) ∧ n ≤ cap ∧ cap ≤ maxLen ∧ cur.toList.take (n * size) = xs := by
  rcases h.2 with ⟨_, h0⟩ | ⟨g, cap, cur, h1, h2, h3, h4, h5, _, h6⟩
  · omega
  · exact ⟨g, cap, cur, h1, h2, h3, h4, h5, h6⟩
theorem row_cell {w : World} {g n : Nat} {cur : Array Value} {t : TypeId} {x y z : Nat → Int} (hg : w.heap[g]? = some (.cells cur t)) (ht : cur.toList.take (n * 3) = listOf (cellP x y z) (n * 3)) (i : Nat) (hi : i < n) :
    w.cell? ⟨g, i * 3, none⟩ = some (.int .i64 (x i)) ∧ w.cell? ⟨g, i * 3 + 1, none⟩ = some (.int .i64 (y i)) ∧ w.cell? ⟨g, i * 3 + 2, none⟩ = some (.int .i64 (z i)) := by
  have each : ∀ j, j < 3 → w.cell? ⟨g, i * 3 + j, none⟩ = some (cellP x y z (i * 3 + j)) := fun j hj => by
    rw [cell_of_row w g (i * 3 + j) cur t (0, 0) hg]
    have h1 : (cur.toList.take (n * 3))[i * 3 + j]? = some (cellP x y z (i * 3 + j)) := by rw [ht]; exact listOf_at _ _ _ (by omega)
    rw [List.getElem?_take_of_lt (by omega)] at h1
    simpa using h1
  have e0 := each 0 (by omega)
  have e1 := each 1 (by omega)
  have e2 := each 2 (by omega)
  rw [cellP_at _ _ _ _ _ (by omega)] at e0 e1 e2
  exact ⟨e0, e1, e2⟩
theorem valid_one (a b c : Int) : validF (a, b, c) 0 = decide (In3 a b c) := by
  unfold validF
  by_cases h : In3 a b c
  · have h' : InB 524288 (a, b, c) := h
    simp [h, h', numT]
  · have h' : ¬ InB 524288 (a, b, c) := h
    simp [h, h']
set_option maxRecDepth 20000 in
set_option maxHeartbeats 4000000 in
theorem pipeLonger_walk (v : Value) (n : Nat) (x y z : Nat → Int) (r d : Int) (w : World) (h : VecsAt w v n x y z) (hd : 0 ≤ d ∧ d ≤ 65535) :
    Calls Try.prog 8 #[v, .int .i64 r, .int .u16 d] w fun e w' => e = .returned (.bool true) ∧ Below w.heap.size w w' := by
  obtain ⟨oa, cap, rfl, hn0, -⟩ := h.form
  have HV := Lib.hid h
  clear h
  obtain ⟨C, hC⟩ : ∃ C, checkF n x y z r = C := ⟨_, rfl⟩
  obtain ⟨T, hT⟩ : ∃ T, lengthF n x y z r = T := ⟨_, rfl⟩
  obtain ⟨hd0, hd1⟩ := hd
  by_cases h0 : C = 0
  · subst h0
    obtain ⟨m2, m32, hA, r1, r2, hG, hS⟩ := check_zero hC
    obtain ⟨k, hk⟩ : ∃ k, n = k + 1 + 1 := ⟨n - 2, by omega⟩
    subst hk
    have hin0 := inP_all hA
    have i1 := hin0 k (by omega)
    have i2 := hin0 (k + 1) (by omega)
    have bx0 : -1048576 ≤ x k ∧ x k ≤ 1048576 := ⟨by have := i1.1; simp only at this; omega, by have := i1.2.1; simp only at this; omega⟩
    have bx1 : -1048576 ≤ x (k + 1) ∧ x (k + 1) ≤ 1048576 := ⟨by have := i2.1; simp only at this; omega, by have := i2.2.1; simp only at this; omega⟩
    have by0 : -1048576 ≤ y k ∧ y k ≤ 1048576 := ⟨by have := i1.2.2.1; simp only at this; omega, by have := i1.2.2.2.1; simp only at this; omega⟩
    have by1 : -1048576 ≤ y (k + 1) ∧ y (k + 1) ≤ 1048576 := ⟨by have := i2.2.2.1; simp only at this; omega, by have := i2.2.2.2.1; simp only at this; omega⟩
    have bz0 : -1048576 ≤ z k ∧ z k ≤ 1048576 := ⟨by have := i1.2.2.2.2.1; simp only at this; omega, by have := i1.2.2.2.2.2; simp only at this; omega⟩
    have bz1 : -1048576 ≤ z (k + 1) ∧ z (k + 1) ≤ 1048576 := ⟨by have := i2.2.2.2.2.1; simp only at this; omega, by have := i2.2.2.2.2.2; simp only at this; omega⟩
    have hax : axI x y z k ≠ 0 := bad_no' (allTo_have hG k (by omega))
    have hone := axis_only (a := x (k + 1) - x k) (b := y (k + 1) - y k) (c := z (k + 1) - z k) hax
    have hTb : 0 ≤ T ∧ T ≤ 1000000000 := by
      have h1 := sum_bd (f := legV x y z) (n := k + 1) (fun i hi => leg_bd hin0 i (by omega))
      have h2 : T = sumTo (legV x y z) (k + 1) + mx (((k + 1 + 1 : Nat) : Int) - 2) 0 * (arcF r - 2 * r) := by rw [← hT]; unfold lengthF; rw [if_pos hC]; rfl
      have hG' : allTo (fun i => !badB x y z i) (k + 1) = true := by simpa using hG
      have hS' : allTo (fun i => !shortB x y z (k + 1 + 1) r i) (k + 1) = true := by simpa using hS
      have h3 := bends_law (m := k + 1) (by omega) r1 r2 hG' hS'
      have h4 : mx (((k + 1 + 1 : Nat) : Int) - 2) 0 = ((k + 1 : Nat) : Int) - 1 := by unfold mx; split <;> omega
      rw [h4] at h2
      omega
    obtain ⟨hT0, hT1⟩ := hTb
    have HC := Lib.hid hC
    have HT := Lib.hid hT
    obtain ⟨oa', cap', hoa, -, hel⟩ := HV.out.form
    obtain ⟨rfl, -, rfl⟩ : oa' = oa ∧ True ∧ cap' = cap := by simpa [eq_comm] using hoa
    obtain ⟨b, off, rfl, hbl, hcl⟩ := hel 0 (by omega)
    have HCL := Lib.hid hcl
    obtain ⟨i0, hi, hz0, hz1, hz2⟩ := info_parts info_vec
    clear hA hG hS hin0 i1 i2 hax hC hT hel hcl hoa m2
    go_enter Try.func8, Try.ntmps8
    go_wp2_with fail
    (go_at_call 13; refine (length_pts _ _ _ _ _ _ _ HV.out).mono ?_; rintro e w1 ⟨rfl, hb⟩)
    rw [HC.out, HT.out]
    have HB1 := Lib.hid (hb)
    clear hb
    have HO := Lib.hid (World.ownsRow_made w1 #[] 0 (base := w.heap.size) (e := 40) (size := 3) HB1.out.size (by decide) (by rfl))
    go_wp2_with (first | (at_builtin; refine wpList_append_own _ rfl _ _ 22 rfl w.heap.size 40 i0 (.agg #[.int .i64 0, .int .i64 0, .int .i64 0]) 3 24 Try.underlying22 hi hz0 hz1 hz2 rfl (by decide) _ _ _ rfl HO.out ⟨b, off, none⟩ (k + 1 + 1) cap' (listOf (cellP x y z) ((k + 1 + 1) * 3)) rfl (listOf_len _ _) ?c1 ?c2 ?c3 ?c4 ?c5 ?_) | go_in)
    case c1 =>
      intro j u hj
      have hlt : j < (k + 1 + 1) * 3 := by
        have := (List.getElem?_eq_some_iff.1 hj).1
        rwa [listOf_len] at this
      rw [listOf_at _ _ _ hlt] at hj
      obtain rfl : cellP x y z j = u := by simpa using hj
      rw [addr_add]
      rw [show (w1.alloc (.cells #[] 40)).cell? ⟨b, off + j, none⟩ = w.cell? ⟨b, off + j, none⟩ from by rw [World.cell?_alloc_lt _ _ _ (Nat.lt_of_lt_of_le hbl HB1.out.size)]; exact HB1.out.cell (p := ⟨_, _, none⟩) hbl]
      obtain ⟨e0, e1, e2⟩ := HCL.out (j / 3) (by omega)
      have hm := Nat.mod_lt j (show 0 < 3 by decide)
      have hj3 : j = j / 3 * 3 + j % 3 := by omega
      generalize j / 3 = q at *
      generalize j % 3 = s at *
      subst hj3
      rw [cellP_at _ _ _ _ _ hm]
      rcases (by omega : s = 0 ∨ s = 1 ∨ s = 2) with rfl | rfl | rfl
      · exact e0
      · exact e1
      · exact e2
    case c2 =>
      intro u hu
      obtain ⟨j, _, rfl⟩ := List.mem_map.1 hu
      unfold cellP
      split <;> rfl
    case c3 => unfold maxLen; omega
    case c4 => omega
    case c5 => have := HB1.out.size; simp; omega
    intro v' w2 hown' hgrow _
    (try simp only [Nat.zero_add, List.nil_append] at hown')
    have hB2 : Below w.heap.size w w2 := Below.grown (HB1.out.alloc HB1.out.size _) hgrow (by have := HB1.out.size; simp; omega) (fun q hq => owns_new HO.out q hq)
    have HB2 := Lib.hid hB2
    obtain ⟨g, capg, cur, rfl, hgb, hrow, hcap, hcm, htk⟩ := owns_row hown' (by omega)
    have HR2 := Lib.hid hrow
    have g2 : g < w2.heap.size := (Array.getElem?_eq_some_iff.1 hrow).1
    obtain ⟨c10, c11, c12⟩ := row_cell hrow htk k (by omega)
    obtain ⟨c20, c21, c22⟩ := row_cell hrow htk (k + 1) (by omega)
    have hgn : g ≠ w2.heap.size := by omega
    clear hown' hgrow hB2 hrow
    have HTK := Lib.hid htk
    clear htk
    have k4 : (k : Int) < k + 1 + 1 := by omega
    have k5 : (k : Int) + 1 < k + 1 + 1 := by omega
    have hpc := past_cell
    rcases hone with ⟨h1, h2, h3⟩ | ⟨h1, h2, h3⟩ | ⟨h1, h2, h3⟩
    · have sx : (x (k + 1) != x k) = true := by simp; omega
      have hne : x (k + 1) ≠ x k := by omega
      have HNE := Lib.hid hne
      clear hne
      go_wp2_with fail
      refine wp_region_past (by kernel_rfl) (by kernel_rfl) ?_
      iterate 8 go_big_quiet_step (fail)
      refine wpQuiet_nil ?_
      intro w3 hw'
      have hb1 := past_out hw'
      clear hw'
      have HB3 := Lib.hid (below_step (w := w) (HB2.out.alloc HB2.out.size _) hb1)
      have HR3 := Lib.hid ((hb1.block g (by simp; omega)).trans ((heapA_old _ _ _ g2).trans HR2.out))
      have HA3 := Lib.hid ((hb1.block _ (by simp)).trans (heapA_at w2 (.cells #[.int .i64 (x k), .int .i64 (y k), .int .i64 (z k)] 40) _ rfl))
      clear hb1 c10 c11 c12 c20 c21 c22
      have g3 : g < w3.heap.size := (Array.getElem?_eq_some_iff.1 HR3.out).1
      have a3 : w2.heap.size < w3.heap.size := (Array.getElem?_eq_some_iff.1 HA3.out).1
      obtain ⟨r0, r1, r2⟩ := row_cell HR3.out HTK.out (k + 1) (by omega)
      obtain ⟨p0, p1, p2, pf, -⟩ := cells_at3 HA3.out
      go_wp2_with fail
      refine wp_region_past_tail 11 (by kernel_rfl) (by kernel_rfl) ?_
      simp only [List.take_succ_cons, List.take_zero, List.drop_succ_cons, List.drop_zero]
      iterate 10 go_big_quiet_step (fail)
      go_big_quiet_step ((go_at_call 23; exact past_of (longer_in _ _ _ _ bx0 bx1 ⟨hd0, hd1⟩)))
      refine wpQuiet_nil ?_
      intro w4 hw'
      have hb1 := past_out hw'
      clear hw'
      have HB4 := Lib.hid (below_step HB3.out hb1)
      have HR4 := Lib.hid ((hb1.block g g3).trans HR3.out)
      have HA4 := Lib.hid ((hb1.block _ a3).trans HA3.out)
      clear hb1 r0 r1 r2 p0 p1 p2 pf
      have g4 : g < w4.heap.size := (Array.getElem?_eq_some_iff.1 HR4.out).1
      have a4 : w2.heap.size < w4.heap.size := (Array.getElem?_eq_some_iff.1 HA4.out).1
      obtain ⟨r0, r1, r2⟩ := row_cell HR4.out HTK.out (k + 1) (by omega)
      obtain ⟨p0, p1, p2, pf, -⟩ := cells_at3 HA4.out
      have rf : ∀ o, w4.frozen? ⟨g, o, none⟩ = false := fun o => frozen_of_row w4 g o cur _ HR4.out
      have HVN := Lib.hid (vecs_store (v := longF (x k) (x (k + 1)) d) HR4.out HTK.out hcap hcm (show k + 1 < k + 1 + 1 by omega) (show 0 < 3 by omega))
      have HBN := Lib.hid (HB4.out.setCell (p := ⟨g, (k + 1) * 3, none⟩) hgb (.int .i64 (longF (x k) (x (k + 1)) d)))
      go_wp2_with fail
      (go_at_call 24; refine (Valid_any _ _ _ _ _).mono ?_; rintro e w5 ⟨rfl, hb⟩)
      rw [valid_one]
      have HB5 := Lib.hid (below_step HBN.out hb)
      have HV5 := Lib.hid (HVN.out.below hb)
      clear hb HBN HVN rf r0 r1 r2
      by_cases hin : In3 (longF (x k) (x (k + 1)) d) (y (k + 1)) (z (k + 1))
      · have hlaw := longer_x (k := k) (x := x) (y := y) (z := z) (r := r) (d := d) HC.out HNE.out hd0 (by rw [updA_at, updA_ne (show 1 ≠ 0 by decide), updA_ne (show 2 ≠ 0 by decide)]; exact hin)
        have HL1 := Lib.hid hlaw.1
        have HL2 : Hid (lengthF (k + 1 + 1) (updA 0 0 x (k + 1) (longF (x k) (x (k + 1)) d)) (updA 1 0 y (k + 1) (longF (x k) (x (k + 1)) d)) (updA 2 0 z (k + 1) (longF (x k) (x (k + 1)) d)) r = T + d) := by rw [← HT.out]; exact hlaw.2
        rw [decide_eq_true hin]
        clear hlaw hin
        go_wp2_with fail
        (go_at_call 13; refine (length_pts _ _ _ _ _ _ _ HV5.out).mono ?_; rintro e w6 ⟨rfl, hb⟩)
        rw [HL1.out, HL2.out]
        have HB6 := Lib.hid (below_step HB5.out hb)
        clear hb
        go_wp2_with fail
        (go_at_call 10; refine (awake_any _).mono ?_; rintro e w7 ⟨rfl, hb⟩)
        have HB7 := Lib.hid (below_step HB6.out hb)
        clear hb
        go_wp2
        go_returns
        exact ⟨rfl, HB7.out⟩
      · rw [decide_eq_false hin]
        clear hin
        go_wp2_with fail
        (go_at_call 10; refine (awake_any _).mono ?_; rintro e w6 ⟨rfl, hb⟩)
        have HB6 := Lib.hid (below_step HB5.out hb)
        clear hb
        go_wp2
        go_returns
        exact ⟨rfl, HB6.out⟩
    · have sx : (x (k + 1) != x k) = false := by simp; omega
      have sy : (y (k + 1) != y k) = true := by simp; omega
      have hne : y (k + 1) ≠ y k := by omega
      have HNE := Lib.hid hne
      clear hne
      go_wp2_with fail
      refine wp_region_past (by kernel_rfl) (by kernel_rfl) ?_
      iterate 8 go_big_quiet_step (fail)
      refine wpQuiet_nil ?_
      intro w3 hw'
      have hb1 := past_out hw'
      clear hw'
      have HB3 := Lib.hid (below_step (w := w) (HB2.out.alloc HB2.out.size _) hb1)
      have HR3 := Lib.hid ((hb1.block g (by simp; omega)).trans ((heapA_old _ _ _ g2).trans HR2.out))
      have HA3 := Lib.hid ((hb1.block _ (by simp)).trans (heapA_at w2 (.cells #[.int .i64 (x k), .int .i64 (y k), .int .i64 (z k)] 40) _ rfl))
      clear hb1 c10 c11 c12 c20 c21 c22
      have g3 : g < w3.heap.size := (Array.getElem?_eq_some_iff.1 HR3.out).1
      have a3 : w2.heap.size < w3.heap.size := (Array.getElem?_eq_some_iff.1 HA3.out).1
      obtain ⟨r0, r1, r2⟩ := row_cell HR3.out HTK.out (k + 1) (by omega)
      obtain ⟨p0, p1, p2, pf, -⟩ := cells_at3 HA3.out
      go_wp2_with fail
      refine wp_region_past (by kernel_rfl) (by kernel_rfl) ?_
      iterate 8 go_big_quiet_step (fail)
      refine wpQuiet_nil ?_
      intro w4 hw'
      have hb1 := past_out hw'
      clear hw'
      have HB4 := Lib.hid (below_step HB3.out hb1)
      have HR4 := Lib.hid ((hb1.block g g3).trans HR3.out)
      have HA4 := Lib.hid ((hb1.block _ a3).trans HA3.out)
      clear hb1 r0 r1 r2 p0 p1 p2 pf
      have g4 : g < w4.heap.size := (Array.getElem?_eq_some_iff.1 HR4.out).1
      have a4 : w2.heap.size < w4.heap.size := (Array.getElem?_eq_some_iff.1 HA4.out).1
      obtain ⟨r0, r1, r2⟩ := row_cell HR4.out HTK.out (k + 1) (by omega)
      obtain ⟨p0, p1, p2, pf, -⟩ := cells_at3 HA4.out
      go_wp2_with fail
      refine wp_region_past_tail 11 (by kernel_rfl) (by kernel_rfl) ?_
      simp only [List.take_succ_cons, List.take_zero, List.drop_succ_cons, List.drop_zero]
      iterate 10 go_big_quiet_step (fail)
      go_big_quiet_step ((go_at_call 23; exact past_of (longer_in _ _ _ _ by0 by1 ⟨hd0, hd1⟩)))
      refine wpQuiet_nil ?_
      intro w5 hw'
      have hb1 := past_out hw'
      clear hw'
      have HB5 := Lib.hid (below_step HB4.out hb1)
      have HR5 := Lib.hid ((hb1.block g g4).trans HR4.out)
      have HA5 := Lib.hid ((hb1.block _ a4).trans HA4.out)
      clear hb1 r0 r1 r2 p0 p1 p2 pf
      have g5 : g < w5.heap.size := (Array.getElem?_eq_some_iff.1 HR5.out).1
      have a5 : w2.heap.size < w5.heap.size := (Array.getElem?_eq_some_iff.1 HA5.out).1
      obtain ⟨r0, r1, r2⟩ := row_cell HR5.out HTK.out (k + 1) (by omega)
      obtain ⟨p0, p1, p2, pf, -⟩ := cells_at3 HA5.out
      have rf : ∀ o, w5.frozen? ⟨g, o, none⟩ = false := fun o => frozen_of_row w5 g o cur _ HR5.out
      have HVN := Lib.hid (vecs_store (v := longF (y k) (y (k + 1)) d) HR5.out HTK.out hcap hcm (show k + 1 < k + 1 + 1 by omega) (show 1 < 3 by omega))
      have HBN := Lib.hid (HB5.out.setCell (p := ⟨g, (k + 1) * 3 + 1, none⟩) hgb (.int .i64 (longF (y k) (y (k + 1)) d)))
      go_wp2_with fail
      (go_at_call 24; refine (Valid_any _ _ _ _ _).mono ?_; rintro e w6 ⟨rfl, hb⟩)
      rw [valid_one]
      have HB6 := Lib.hid (below_step HBN.out hb)
      have HV5 := Lib.hid (HVN.out.below hb)
      clear hb HBN HVN rf r0 r1 r2
      by_cases hin : In3 (x (k + 1)) (longF (y k) (y (k + 1)) d) (z (k + 1))
      · have hlaw := longer_y (k := k) (x := x) (y := y) (z := z) (r := r) (d := d) HC.out HNE.out hd0 (by rw [updA_ne (show 0 ≠ 1 by decide), updA_at, updA_ne (show 2 ≠ 1 by decide)]; exact hin)
        have HL1 := Lib.hid hlaw.1
        have HL2 : Hid (lengthF (k + 1 + 1) (updA 0 1 x (k + 1) (longF (y k) (y (k + 1)) d)) (updA 1 1 y (k + 1) (longF (y k) (y (k + 1)) d)) (updA 2 1 z (k + 1) (longF (y k) (y (k + 1)) d)) r = T + d) := by rw [← HT.out]; exact hlaw.2
        rw [decide_eq_true hin]
        clear hlaw hin
        go_wp2_with fail
        (go_at_call 13; refine (length_pts _ _ _ _ _ _ _ HV5.out).mono ?_; rintro e w7 ⟨rfl, hb⟩)
        rw [HL1.out, HL2.out]
        have HB7 := Lib.hid (below_step HB6.out hb)
        clear hb
        go_wp2_with fail
        (go_at_call 10; refine (awake_any _).mono ?_; rintro e w8 ⟨rfl, hb⟩)
        have HB8 := Lib.hid (below_step HB7.out hb)
        clear hb
        go_wp2
        go_returns
        exact ⟨rfl, HB8.out⟩
      · rw [decide_eq_false hin]
        clear hin
        go_wp2_with fail
        (go_at_call 10; refine (awake_any _).mono ?_; rintro e w7 ⟨rfl, hb⟩)
        have HB7 := Lib.hid (below_step HB6.out hb)
        clear hb
        go_wp2
        go_returns
        exact ⟨rfl, HB7.out⟩
    · have sx : (x (k + 1) != x k) = false := by simp; omega
      have sy : (y (k + 1) != y k) = false := by simp; omega
      have hne : z (k + 1) ≠ z k := by omega
      have HNE := Lib.hid hne
      clear hne
      go_wp2_with fail
      refine wp_region_past (by kernel_rfl) (by kernel_rfl) ?_
      iterate 8 go_big_quiet_step (fail)
      refine wpQuiet_nil ?_
      intro w3 hw'
      have hb1 := past_out hw'
      clear hw'
      have HB3 := Lib.hid (below_step (w := w) (HB2.out.alloc HB2.out.size _) hb1)
      have HR3 := Lib.hid ((hb1.block g (by simp; omega)).trans ((heapA_old _ _ _ g2).trans HR2.out))
      have HA3 := Lib.hid ((hb1.block _ (by simp)).trans (heapA_at w2 (.cells #[.int .i64 (x k), .int .i64 (y k), .int .i64 (z k)] 40) _ rfl))
      clear hb1 c10 c11 c12 c20 c21 c22
      have g3 : g < w3.heap.size := (Array.getElem?_eq_some_iff.1 HR3.out).1
      have a3 : w2.heap.size < w3.heap.size := (Array.getElem?_eq_some_iff.1 HA3.out).1
      obtain ⟨r0, r1, r2⟩ := row_cell HR3.out HTK.out (k + 1) (by omega)
      obtain ⟨p0, p1, p2, pf, -⟩ := cells_at3 HA3.out
      go_wp2_with fail
      refine wp_region_past (by kernel_rfl) (by kernel_rfl) ?_
      iterate 8 go_big_quiet_step (fail)
      refine wpQuiet_nil ?_
      intro w4 hw'
      have hb1 := past_out hw'
      clear hw'
      have HB4 := Lib.hid (below_step HB3.out hb1)
      have HR4 := Lib.hid ((hb1.block g g3).trans HR3.out)
      have HA4 := Lib.hid ((hb1.block _ a3).trans HA3.out)
      clear hb1 r0 r1 r2 p0 p1 p2 pf
      have g4 : g < w4.heap.size := (Array.getElem?_eq_some_iff.1 HR4.out).1
      have a4 : w2.heap.size < w4.heap.size := (Array.getElem?_eq_some_iff.1 HA4.out).1
      obtain ⟨r0, r1, r2⟩ := row_cell HR4.out HTK.out (k + 1) (by omega)
      obtain ⟨p0, p1, p2, pf, -⟩ := cells_at3 HA4.out
      go_wp2_with fail
      refine wp_region_past_tail 11 (by kernel_rfl) (by kernel_rfl) ?_
      simp only [List.take_succ_cons, List.take_zero, List.drop_succ_cons, List.drop_zero]
      iterate 10 go_big_quiet_step (fail)
      go_big_quiet_step ((go_at_call 23; exact past_of (longer_in _ _ _ _ bz0 bz1 ⟨hd0, hd1⟩)))
      refine wpQuiet_nil ?_
      intro w5 hw'
      have hb1 := past_out hw'
      clear hw'
      have HB5 := Lib.hid (below_step HB4.out hb1)
      have HR5 := Lib.hid ((hb1.block g g4).trans HR4.out)
      have HA5 := Lib.hid ((hb1.block _ a4).trans HA4.out)
      clear hb1 r0 r1 r2 p0 p1 p2 pf
      have g5 : g < w5.heap.size := (Array.getElem?_eq_some_iff.1 HR5.out).1
      have a5 : w2.heap.size < w5.heap.size := (Array.getElem?_eq_some_iff.1 HA5.out).1
      obtain ⟨r0, r1, r2⟩ := row_cell HR5.out HTK.out (k + 1) (by omega)
      obtain ⟨p0, p1, p2, pf, -⟩ := cells_at3 HA5.out
      have rf : ∀ o, w5.frozen? ⟨g, o, none⟩ = false := fun o => frozen_of_row w5 g o cur _ HR5.out
      have HVN := Lib.hid (vecs_store (v := longF (z k) (z (k + 1)) d) HR5.out HTK.out hcap hcm (show k + 1 < k + 1 + 1 by omega) (show 2 < 3 by omega))
      have HBN := Lib.hid (HB5.out.setCell (p := ⟨g, (k + 1) * 3 + 2, none⟩) hgb (.int .i64 (longF (z k) (z (k + 1)) d)))
      go_wp2_with fail
      (go_at_call 24; refine (Valid_any _ _ _ _ _).mono ?_; rintro e w6 ⟨rfl, hb⟩)
      rw [valid_one]
      have HB6 := Lib.hid (below_step HBN.out hb)
      have HV5 := Lib.hid (HVN.out.below hb)
      clear hb HBN HVN rf r0 r1 r2
      by_cases hin : In3 (x (k + 1)) (y (k + 1)) (longF (z k) (z (k + 1)) d)
      · have hlaw := longer_z (k := k) (x := x) (y := y) (z := z) (r := r) (d := d) HC.out HNE.out hd0 (by rw [updA_ne (show 0 ≠ 2 by decide), updA_ne (show 1 ≠ 2 by decide), updA_at]; exact hin)
        have HL1 := Lib.hid hlaw.1
        have HL2 : Hid (lengthF (k + 1 + 1) (updA 0 2 x (k + 1) (longF (z k) (z (k + 1)) d)) (updA 1 2 y (k + 1) (longF (z k) (z (k + 1)) d)) (updA 2 2 z (k + 1) (longF (z k) (z (k + 1)) d)) r = T + d) := by rw [← HT.out]; exact hlaw.2
        rw [decide_eq_true hin]
        clear hlaw hin
        go_wp2_with fail
        (go_at_call 13; refine (length_pts _ _ _ _ _ _ _ HV5.out).mono ?_; rintro e w7 ⟨rfl, hb⟩)
        rw [HL1.out, HL2.out]
        have HB7 := Lib.hid (below_step HB6.out hb)
        clear hb
        go_wp2_with fail
        (go_at_call 10; refine (awake_any _).mono ?_; rintro e w8 ⟨rfl, hb⟩)
        have HB8 := Lib.hid (below_step HB7.out hb)
        clear hb
        go_wp2
        go_returns
        exact ⟨rfl, HB8.out⟩
      · rw [decide_eq_false hin]
        clear hin
        go_wp2_with fail
        (go_at_call 10; refine (awake_any _).mono ?_; rintro e w7 ⟨rfl, hb⟩)
        have HB7 := Lib.hid (below_step HB6.out hb)
        clear hb
        go_wp2
        go_returns
        exact ⟨rfl, HB7.out⟩
  · have hT2 : T = 0 := by rw [← hT]; unfold lengthF; rw [if_neg (by rw [hC]; exact h0)]
    subst hT2
    have HC := Lib.hid hC
    have HT := Lib.hid hT
    have k0 : (C != 0) = true := by simpa using h0
    clear hT hC h0
    go_enter Try.func8, Try.ntmps8
    go_wp2_with fail
    (go_at_call 13; refine (length_pts _ _ _ _ _ _ _ HV.out).mono ?_; rintro e w1 ⟨rfl, hb⟩)
    rw [HC.out, HT.out]
    have HB1 := Lib.hid (hb)
    clear hb
    go_wp2_with fail
    (go_at_call 10; refine (awake_any _).mono ?_; rintro e w2 ⟨rfl, hb⟩)
    have HB2 := Lib.hid (below_step HB1.out hb)
    clear hb
    go_wp2
    go_returns
    exact ⟨rfl, HB2.out⟩

set_option maxRecDepth 100000 in
theorem pipeLonger_contract (H : Type) (enc : TypeId × Value → H) (W : World) (base : Nat) (args : Array Value) (ds gs : List (DataW H)) (before : List MemPlace)
    (hval : ∀ (j : Nat) t v, Try.f8.params[j]? = some t → args[j]? = some v → Value.okWide Try.prog W .any base t v)
    (hW : DataW.Whole enc Try.prog Try.f8.params.toList Rows.pipeLongerSpec.vars false W args.toList ds gs before) (hL : laidMetH Try.prog Rows.pipeLongerRow.laid W) :
    Calls Try.prog 8 args W fun e W' => ∃ v, e = .returned v ∧ Rows.pipeLongerSpec.post enc Try.prog Try.f8 false true false false W args v W' := by
  have hW' := hW
  obtain ⟨p, q, hA0, hV, rfl, hfz, hnd⟩ := hW
  have hA : DataW.TrodAll enc Try.prog W 0 (fun _ => true) true Try.f8.params.toList args.toList ds p := hA0
  rw [Try.params8] at hA hval
  obtain ⟨v0, vs0, d0, ds0, p0, q0, hargs, rfl, rfl, h0, r0⟩ := trodAll_cons hA
  obtain ⟨v1, vs1, d1, ds1, p1, q1, rfl, rfl, rfl, h1, r1⟩ := trodAll_cons r0
  obtain ⟨v2, vs2, d2, ds2, p2, q2, rfl, rfl, rfl, h2, r2⟩ := trodAll_cons r1
  obtain ⟨rfl, rfl, rfl⟩ := trodAll_nil r2
  obtain rfl : args = #[v0, v1, v2] := by cases args; simp_all
  obtain ⟨n, ff, hff, hbd⟩ := flat_slice (n := 8) (e := 40) (sz := 3) (by kernel_rfl) (by kernel_rfl) (by decide) (by kernel_rfl) (hval 0 22 v0 rfl rfl) h0
  have hvv := vecs_of_flat hff
  obtain ⟨r, rfl, rfl, rfl, _w1⟩ := open_int Try.underlying3 (hval 1 3 v1 rfl rfl) h1
  obtain ⟨d, rfl, rfl, rfl, _w2⟩ := open_int Try.underlying49 (hval 2 49 v2 rfl rfl) h2
  refine (pipeLonger_walk _ n _ _ _ r d W hvv (by simpa [Lit.wf, IntKind.min, IntKind.max, IntKind.signed, IntKind.bits] using _w2)).mono fun e W' ⟨he, hb⟩ => ?_
  subst he
  exact ⟨_, rfl, law_post laidOut (by kernel_rfl) (by kernel_rfl) Try.underlying4 rfl hW' (fun _ => rfl) hb⟩
theorem pipeLonger_reads (os : Os) {H : Type} (enc : TypeId × Value → H) : ∃ places, DataW.whole enc Try.prog ((World.settled Try.prog os).forCall (fun _ _ => 0) ⟨#[], #[.slice none 0 0, .int .i64 0, .int .u16 0], []⟩).memory Try.f8.params.toList Rows.pipeLongerSpec.vars false (#[.slice none 0 0, .int .i64 0, .int .u16 0] : Array Value).toList 8 = some ([.nil, .lit (.int .i64 0), .lit (.int .u16 0)], [], places) := ⟨[], by kernel_rfl⟩
set_option maxRecDepth 100000 in
theorem pipeLonger_lifted (os : Os) (started : os.Started) (H : Type) (enc : TypeId × Value → H) (F : Stop.Interp) :
    ReturnsInHanded {} Try.checked os 8 .any ((OpenSpec.ofChange Rows.pipeLongerSpec).preRow enc Try.prog Try.f8 Rows.pipeLongerRow.domain false Rows.pipeLongerRow.laid) (((OpenSpec.ofChange Rows.pipeLongerSpec).at F).post enc Try.prog Try.f8 false true false false) := by
  obtain ⟨places, hx⟩ := pipeLonger_reads os enc
  refine returnsInHanded_of_row (C := Try.checked) (s := OpenSpec.ofChange Rows.pipeLongerSpec) own started (by kernel_rfl) Try.func8
    (witness_row_at (enc := enc) (C := Try.checked) false (World.settled Try.prog os) #[.slice none 0 0, .int .i64 0, .int .u16 0] rfl (by kernel_rfl) (by kernel_rfl) (by kernel_rfl)
      (OpenSpec.preRow_of_cond 8 hx (by kernel_rfl) (fun k hk => by cases hk) (by kernel_rfl) (laidMet_nil _ _))) ?_
  intro W base args ds gs before hval hW _ _ _ hL _ _
  exact pipeLonger_contract H enc W base args ds gs before hval hW hL
theorem pipeLonger_said : Rows.PipeLongerSaid :=
  OpenClaim.holds_of_cond 8 Try.f8 rfl rfl rfl rfl rfl rfl rfl ⟨rfl, rfl, rfl, rfl, rfl⟩ rfl rfl rfl rfl rfl (by kernel_rfl) Try.func8 (by kernel_rfl)
    (of_decide_eq_true (by kernel_rfl)) (by unfold Func.isWrapper; rw [if_neg (of_decide_eq_false (by kernel_rfl))]; exact ⟨rfl, rfl⟩)
    (fun os started H enc _ F => by rw [OpenClaim.pre_eq_preRow]; exact pipeLonger_lifted os started H enc F)
#print axioms pipeLonger_said
end Go.Proofs.Ytdpppklelfmcjaa
