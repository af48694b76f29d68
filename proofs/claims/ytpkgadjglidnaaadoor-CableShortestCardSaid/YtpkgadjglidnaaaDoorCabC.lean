/-
  The reference's distances, by a walk. Conditions: as stated. By an AI agent.
-/
import Derived.Test.YtpkgadjglidnaaaDoorCabB
namespace Go.Proofs.YtpkgadjglidnaaaDoor
open Go Go.ChangeShapes Go.WideShapes Go.RowKit Go.ChangeAt
set_option linter.unusedVariables false
set_option linter.unusedSimpArgs false

def mn (x y : Int) : Int := if y < x then y else x
theorem mn_min (x y : Int) : mn x y = min x y := by unfold mn; split <;> omega
theorem run_mn (ts : Array TypeId) (t : TypeId) (x y : Int) (w : World) : (Builtin.min_ ts t #[.int .i64 x, .int .i64 y]).run Tryd.prog w = .ok (.int .i64 (mn x y)) w := by
  simp [go_sem, mn]
def rlxA (t : Tr) (E : Nat → Int) : Nat → Int := updN E t.A.toNat (mn (E t.A.toNat) (E t.B.toNat + t.L))
def rlxB (t : Tr) (E : Nat → Int) : Nat → Int := updN E t.B.toNat (mn (E t.B.toNat) (E t.A.toNat + t.L))
/-- a round of the reference that has gone through the first j trays -/
structure RSwp (n : Nat) (T : Nat → Tr) (U : Nat → Bool) (to : Int) (E0 : Nat → Int) (j : Nat) (E : Nat → Int) : Prop where
  inv : RefInv n T U to E
  le : ∀ i, E i ≤ E0 i
  done : ∀ i, i < j → U i = true → ∀ v w, Goes (T i) v w → E v.toNat ≤ E0 w.toNat + (T i).L
section
variable {n : Nat} {T : Nat → Tr} {U : Nat → Bool} {to : Int} {E0 E : Nat → Int} {j : Nat}
theorem RSwp.start (h : RefInv n T U to E) : RSwp n T U to E 0 E := ⟨h, fun _ => Int.le_refl _, fun i hi => (by omega)⟩
theorem RSwp.pass (h : RSwp n T U to E0 j E) (hu : U j = false) : RSwp n T U to E0 (j + 1) E := ⟨h.inv, h.le, fun i hi hui v w hg => by
  by_cases e : i = j
  · subst e; rw [hu] at hui; cases hui
  · exact h.done i (by omega) hui v w hg⟩
theorem RSwp.turn (hT : ∀ i, i < n → (T i).ok) (h : RSwp n T U to E0 j E) (hj : j < n) (hu : U j = true) : RSwp n T U to E0 (j + 1) (rlxB (T j) (rlxA (T j) E)) := by
  have hok := hT j hj
  unfold Tr.ok at hok
  have hne : (T j).A.toNat ≠ (T j).B.toNat := by omega
  have i1 := h.inv.step hT hj hu (v := (T j).A) (w := (T j).B) (.inl ⟨rfl, rfl⟩)
  rw [← mn_min] at i1
  have i2 := i1.step hT hj hu (v := (T j).B) (w := (T j).A) (.inr ⟨rfl, rfl⟩)
  rw [← mn_min] at i2
  have l1 : ∀ i, rlxA (T j) E i ≤ E i := fun i => by unfold rlxA; rw [mn_min]; exact updN_min_le _ _ _ _
  have l2 : ∀ i, rlxB (T j) (rlxA (T j) E) i ≤ rlxA (T j) E i := fun i => by
    show updN _ _ (mn _ _) i ≤ _
    rw [mn_min]; exact updN_min_le _ _ _ _
  refine ⟨i2, fun i => by have := h.le i; have := l1 i; have := l2 i; omega, fun i hi hui v w hg => ?_⟩
  by_cases e : i = j
  · subst e
    have hA := h.le (T i).A.toNat
    have hB := h.le (T i).B.toNat
    have la := l1 (T i).A.toNat
    rcases hg with ⟨rfl, rfl⟩ | ⟨rfl, rfl⟩
    · have h2 := l2 (T i).A.toNat
      have h1 : rlxA (T i) E (T i).A.toNat = mn (E (T i).A.toNat) (E (T i).B.toNat + (T i).L) := updN_same _ _ _
      rw [mn_min] at h1
      omega
    · have h1 : rlxB (T i) (rlxA (T i) E) (T i).B.toNat = mn (rlxA (T i) E (T i).B.toNat) (rlxA (T i) E (T i).A.toNat + (T i).L) := updN_same _ _ _
      rw [mn_min] at h1
      omega
  · have := h.done i (by omega) hui v w hg
    have := l1 v.toNat
    have := l2 v.toNat
    omega
end

theorem rstart_arr (k : Nat) : arrI 256 (updN (fun k => if k < 256 then 1099511627776 else 0) k 0) = arrI 256 (updN (fun _ => 1099511627776) k 0) := arrI_congr fun i hi => by
  unfold updN
  (try dsimp only)
  split
  · rfl
  · first | rfl | rw [if_pos hi] | simp [hi]
set_option maxHeartbeats 8000000 in
set_option maxRecDepth 20000 in
theorem rdistances_any (v u : Value) (n : Nat) (T : Nat → Tr) (U : Nat → Bool) (to : Int) (w : World) (h : TraysAt w v n T) (h' : BoolsAt w u n U) (hT : ∀ i, i < n → (T i).ok) (hto : 0 ≤ to ∧ to ≤ 255) :
    Calls Tryd.prog 34 #[v, u, .int .i64 to] w fun e w' => ∃ g, e = .returned (.slice (some ⟨g, 0, none⟩) 256 256) ∧ w.heap.size ≤ g ∧ w'.heap[g]? = some (.cells (arrI 256 (fun i => refF n T U to (i : Int))) 3) ∧ Below w.heap.size w w' := by
  obtain ⟨oa, ca, rfl, hn, hel⟩ := h.form
  obtain ⟨ob, cb, rfl, hn', hub⟩ := h'.form
  have HEL := Lib.hid hel
  have HUB := Lib.hid hub
  have HTK := Lib.hid hT
  clear h h' hel hub hT
  go_enter Tryd.func34, Tryd.ntmps34
  obtain ⟨i0, hi0, hz0, hs0, hb0⟩ := info1_parts info_int
  go_wp2_with (refine wpList_make_row _ rfl _ _ 32 rfl 3 i0 _ Tryd.underlying32 hi0 hz0 hs0 rfl _ _ 256 rfl rfl (by rw [hb0]; decide) (by decide) ?_; rw [madeI])
  go_loopw [8] (fun i wr => ∃ j : Nat, j ≤ 256 ∧ i = .int .i64 j ∧ Hid (wr.heap[w.heap.size]? = some (.cells (arrI 256 (fun k => if k < j then 1099511627776 else 0)) 3)) ∧ Below w.heap.size w wr) (fun i _ => 256 - (intOf i).toNat)
  case atStart =>
    refine ⟨0, by omega, rfl, ?_, by go_grown⟩
    exact heapA_at _ _ _ rfl
  case round =>
    obtain ⟨w1, rfl⟩ : ∃ x : World, x = wr := ⟨_, rfl⟩
    obtain ⟨j, hj, rfl, HF, hBw1⟩ := hrel
    have zf := block_lt HF.out
    by_cases hlt : j < 256
    · have c0 : w1.cell? ⟨w.heap.size, j, none⟩ = some (.int .i64 0) := by
        rw [arr_cell HF.out hlt]
        simp
      have cf := arr_frozen HF.out j
      have k0 : (0 : Int) ≤ (j : Int) := by omega
      have k1 : (j : Int) < 256 := by omega
      have HF2 : Hid ((w1.setCell ⟨w.heap.size, j, none⟩ (.int .i64 1099511627776)).heap[w.heap.size]? = some (.cells (arrI 256 (fun k => if k < j + 1 then 1099511627776 else 0)) 3)) := by
        show _ = _
        rw [setArr HF.out]
        congr 2
        refine arrI_congr fun i hi => ?_
        unfold updN
        (try dsimp only)
        by_cases e : i = j
        · rw [if_pos e, if_pos (by omega)]
        · rw [if_neg e]
          by_cases e2 : i < j
          · rw [if_pos e2, if_pos (by omega)]
          · rw [if_neg e2, if_neg (by omega)]
      go_wp2
      go_roundw
      case rel => exact ⟨j + 1, by omega, by go_num, HF2, by go_grown⟩
      case measure => simp [intOf]; omega
    · have hj256 : j = 256 := by omega
      have kd : decide ((j : Int) < 256) = false := decide_eq_false (by omega)
      obtain ⟨J, hJ⟩ : ∃ J : Int, (j : Int) = J := ⟨_, rfl⟩
      rw [hJ] at kd ⊢
      replace HF : Hid (w1.heap[w.heap.size]? = some (.cells (arrI 256 (fun k => if k < 256 then 1099511627776 else 0)) 3)) := by
        have h := HF.out
        rw [hj256] at h
        exact h
      clear hj hj256 hJ hlt j
      have c0 : w1.cell? ⟨w.heap.size, to.toNat, none⟩ = some (.int .i64 1099511627776) := by
        rw [arr_cell HF.out (by omega), if_pos (by omega)]
      have cf := arr_frozen HF.out to.toNat
      have h0 := hto.1
      have h1 : to < 256 := by omega
      have HS1 : Hid ((w1.setCell ⟨w.heap.size, to.toNat, none⟩ (.int .i64 0)).heap[w.heap.size]? = some (.cells (arrI 256 (updN (fun _ => 1099511627776) to.toNat 0)) 3)) := by
        show _ = _
        rw [setArr HF.out, rstart_arr]
      go_wp2
      have hBs : Below w.heap.size w (w1.setCell ⟨w.heap.size, to.toNat, none⟩ (.int .i64 0)) := by go_grown
      clear HF c0 cf zf
      go_loopw [9] (fun i wr => ∃ (k : Nat) (E : Nat → Int), k ≤ 256 ∧ i = .int .i64 k ∧ Hid (RefInv n T U to E) ∧ Hid (RefDone (distF n T U to) E k) ∧ Hid (wr.heap[w.heap.size]? = some (.cells (arrI 256 E) 3)) ∧ Below w.heap.size w wr) (fun i _ => 256 - (intOf i).toNat)
      case atStart => exact ⟨0, _, by omega, rfl, refInv_start hto, refDone_start HTK.out hto (distF_is HTK.out), HS1, hBs⟩
      case round =>
        clear HS1 hBs
        obtain ⟨w2, rfl⟩ : ∃ x : World, x = wr := ⟨_, rfl⟩
        obtain ⟨k, E0, hk, rfl, HI, HD, HE0, hBw2⟩ := hrel
        by_cases hk2 : k < 256
        · go_wp2
          go_loopw [10] (fun i wr => ∃ (j : Nat) (E : Nat → Int), j ≤ n ∧ i = .int .i64 j ∧ Hid (RSwp n T U to E0 j E) ∧ Hid (wr.heap[w.heap.size]? = some (.cells (arrI 256 E) 3)) ∧ Below w.heap.size w wr) (fun i _ => n - (intOf i).toNat)
          case atStart => exact ⟨0, E0, by omega, rfl, RSwp.start HI.out, HE0, hBw2⟩
          case round =>
            clear HE0 hBw2
            obtain ⟨w3, rfl⟩ : ∃ x : World, x = wr := ⟨_, rfl⟩
            obtain ⟨j, E, hj, rfl, HS, HE, hB3⟩ := hrel
            have zE := block_lt HE.out
            by_cases hjn : j < n
            · obtain ⟨b1, f1, rfl, hbl1, hcl1⟩ := HEL.out j hjn
              obtain ⟨b2, f2, rfl, hbl2, hcl2⟩ := HUB.out j hjn
              have c0 : w3.cell? ⟨b1, f1 + j * 4, none⟩ = some (.int .i64 (T j).A) := (hB3.cell (p := ⟨_, _, none⟩) hbl1).trans (hcl1 j hjn).1
              have c1 : w3.cell? ⟨b1, f1 + j * 4 + 1, none⟩ = some (.int .i64 (T j).B) := (hB3.cell (p := ⟨_, _, none⟩) hbl1).trans (hcl1 j hjn).2.1
              have c2 : w3.cell? ⟨b1, f1 + j * 4 + 2, none⟩ = some (.int .i64 (T j).L) := (hB3.cell (p := ⟨_, _, none⟩) hbl1).trans (hcl1 j hjn).2.2.1
              have c3 : w3.cell? ⟨b1, f1 + j * 4 + 3, none⟩ = some (.int .i64 (T j).S) := (hB3.cell (p := ⟨_, _, none⟩) hbl1).trans (hcl1 j hjn).2.2.2
              have cu : w3.cell? ⟨b2, f2 + j, none⟩ = some (.bool (U j)) := (hB3.cell (p := ⟨_, _, none⟩) hbl2).trans (hcl2 j hjn)
              have hok := HTK.out j hjn
              unfold Tr.ok at hok
              obtain ⟨⟨ta, tb, tl, tsp⟩, htj⟩ : ∃ t, T j = t := ⟨_, rfl⟩
              rw [htj] at c0 c1 c2 c3 hok
              dsimp only at c0 c1 c2 c3 hok
              obtain ⟨q0, q1, q2, q3, q4, q5, q6, q7, hne⟩ := hok
              have q1' : ta < 256 := by omega
              have q3' : tb < 256 := by omega
              have HTJ := Lib.hid htj
              have hbr1 : b1 < w3.heap.size := by have := hB3.size; omega
              have hbr2 : b2 < w3.heap.size := by have := hB3.size; omega
              have k0 : (0 : Int) ≤ (j : Int) := by omega
              have k1 : (j : Int) < (n : Int) := by omega
              clear hcl1 hcl2 htj
              cases hu : U j
              · have HS2 : Hid (RSwp n T U to E0 (j + 1) E) := HS.out.pass hu
                rw [hu] at cu
                clear hu
                have HE3 : Hid ((w3.alloc (.cells #[.int .i64 ta, .int .i64 tb, .int .i64 tl, .int .i64 tsp] 28)).heap[w.heap.size]? = some (.cells (arrI 256 E) 3)) := (heapA_old _ _ _ zE).trans HE.out
                go_wp2
                go_roundw
                case rel => exact ⟨j + 1, E, by omega, by go_num, HS2, HE3, by go_grown⟩
                case measure => simp [intOf]; omega
              · rw [hu] at cu
                have huj : U j = true := hu
                clear hu
                obtain ⟨xa, hxa⟩ : ∃ x, E ta.toNat = x := ⟨_, rfl⟩
                obtain ⟨xb, hxb⟩ : ∃ x, E tb.toNat = x := ⟨_, rfl⟩
                have hla := HS.out.inv.low ta.toNat (by omega)
                have hlb := HS.out.inv.low tb.toNat (by omega)
                rw [hxa] at hla
                rw [hxb] at hlb
                have HXA := Lib.hid hxa
                have HXB := Lib.hid hxb
                obtain ⟨TBK, hTBK⟩ : ∃ b, w3.heap.size = b := ⟨_, rfl⟩
                have dTB : w.heap.size < TBK := by omega
                clear hxa hxb
                have HEA : Hid ((w3.alloc (.cells #[.int .i64 ta, .int .i64 tb, .int .i64 tl, .int .i64 tsp] 28)).heap[w.heap.size]? = some (.cells (arrI 256 E) 3)) := (heapA_old _ _ _ zE).trans HE.out
                have HTA : Hid ((w3.alloc (.cells #[.int .i64 ta, .int .i64 tb, .int .i64 tl, .int .i64 tsp] 28)).heap[TBK]? = some (.cells #[.int .i64 ta, .int .i64 tb, .int .i64 tl, .int .i64 tsp] 28)) := heapA_at _ _ _ hTBK.symm
                have HTBK := Lib.hid hTBK
                clear hTBK
                go_wp2_with fail
                have hTBK := HTBK.out
                rw [hTBK]
                have hBA : Below w.heap.size w (w3.alloc (.cells #[.int .i64 ta, .int .i64 tb, .int .i64 tl, .int .i64 tsp] 28)) := by go_grown
                have hsA : w3.heap.size + 1 = (w3.alloc (.cells #[.int .i64 ta, .int .i64 tb, .int .i64 tl, .int .i64 tsp] 28)).heap.size := by simp
                obtain ⟨w4, hw4⟩ : ∃ x, (w3.alloc (.cells #[.int .i64 ta, .int .i64 tb, .int .i64 tl, .int .i64 tsp] 28)) = x := ⟨_, rfl⟩
                rw [hw4] at HEA HTA hBA hsA ⊢
                obtain ⟨t0, t1, t2, t3, tf, ts⟩ := cells_at4 HTA.out
                have zA : w.heap.size < w4.heap.size := by omega
                have ztA : TBK < w4.heap.size := ts
                have ftaA : w4.cell? ⟨w.heap.size, ta.toNat, none⟩ = some (.int .i64 xa) := by rw [← HXA.out]; exact arr_cell HEA.out (by omega)
                have ftbA : w4.cell? ⟨w.heap.size, tb.toNat, none⟩ = some (.int .i64 xb) := by rw [← HXB.out]; exact arr_cell HEA.out (by omega)
                have ffA := arr_frozen HEA.out
                have wsum : IntKind.i64.wrap (xb + tl) = xb + tl := IntWalk.i64_in _ (by omega)
                have hpc := past_cell
                have hmn := run_mn
                clear hw4 hTBK c0 c1 c2 c3 cu hsA
                go_wp2_with fail
                refine wp_region_past_tail 18 (by kernel_rfl) (by kernel_rfl) ?_
                simp only [List.take_succ_cons, List.take_zero, List.drop_succ_cons, List.drop_zero]
                iterate 18 go_big_quiet_step (fail)
                refine wpQuiet_nil ?_
                intro w5 hw'
                have hb1 := past_out hw'
                clear hw'
                have hXB := hb1
                have cB : w5.cell? ⟨w.heap.size, ta.toNat, none⟩ = some (.int .i64 xa) := (hb1.cell (p := ⟨w.heap.size, ta.toNat, none⟩) zA).trans ftaA
                have cfB : w5.frozen? ⟨w.heap.size, ta.toNat, none⟩ = false := (hb1.frozen (p := ⟨w.heap.size, ta.toNat, none⟩) zA).trans (ffA _)
                have HEB : Hid (w5.heap[w.heap.size]? = some (.cells (arrI 256 E) 3)) := (hb1.block _ zA).trans HEA.out
                have HTB : Hid (w5.heap[TBK]? = some (.cells #[.int .i64 ta, .int .i64 tb, .int .i64 tl, .int .i64 tsp] 28)) := (hb1.block _ ztA).trans HTA.out
                have hBB : Below w.heap.size w w5 := below_step hBA hb1
                have hsB := hb1.size
                have HE6 : Hid ((w5.setCell ⟨w.heap.size, ta.toNat, none⟩ (.int .i64 (mn xa (xb + tl)))).heap[w.heap.size]? = some (.cells (arrI 256 (updN E ta.toNat (mn xa (xb + tl)))) 3)) := setArr HEB.out
                have HT6 : Hid ((w5.setCell ⟨w.heap.size, ta.toNat, none⟩ (.int .i64 (mn xa (xb + tl)))).heap[TBK]? = some (.cells #[.int .i64 ta, .int .i64 tb, .int .i64 tl, .int .i64 tsp] 28)) := (heap_setCell_other _ _ _ _ (by show TBK ≠ w.heap.size; omega)).trans HTB.out
                have hB6 : Below w.heap.size w (w5.setCell ⟨w.heap.size, ta.toNat, none⟩ (.int .i64 (mn xa (xb + tl)))) := by go_grown
                have hs6 : (w5.setCell ⟨w.heap.size, ta.toNat, none⟩ (.int .i64 (mn xa (xb + tl)))).heap.size = w5.heap.size := by simp
                obtain ⟨ya, hya⟩ : ∃ y, mn xa (xb + tl) = y := ⟨_, rfl⟩
                have hya2 : ya ≤ xa ∧ 0 ≤ ya := by rw [← hya, mn_min]; omega
                clear hb1 t0 t1 t2 t3 tf ts ftaA ftbA ffA wsum hXB
                go_wp2_with fail
                rw [hya] at HE6 HT6 hB6 hs6 ⊢
                obtain ⟨w6, hw6⟩ : ∃ x, (w5.setCell ⟨w.heap.size, ta.toNat, none⟩ (.int .i64 ya)) = x := ⟨_, rfl⟩
                rw [hw6] at HE6 HT6 hB6 hs6 ⊢
                obtain ⟨t0, t1, t2, t3, tf, ts⟩ := cells_at4 HT6.out
                have HYA := Lib.hid hya
                have z6 : w.heap.size < w6.heap.size := by omega
                have zt6 : TBK < w6.heap.size := by omega
                have fta6 : w6.cell? ⟨w.heap.size, ta.toNat, none⟩ = some (.int .i64 ya) := (arr_cell HE6.out (by omega)).trans (by rw [updN_same])
                have ftb6 : w6.cell? ⟨w.heap.size, tb.toNat, none⟩ = some (.int .i64 xb) := (arr_cell HE6.out (by omega)).trans (by rw [updN_other (by omega), HXB.out])
                have ff6 := arr_frozen HE6.out
                have wsum : IntKind.i64.wrap (ya + tl) = ya + tl := IntWalk.i64_in _ (by omega)
                clear hw6 hya cB cfB hs6
                go_wp2_with fail
                refine wp_region_past_tail 18 (by kernel_rfl) (by kernel_rfl) ?_
                simp only [List.take_succ_cons, List.take_zero, List.drop_succ_cons, List.drop_zero]
                iterate 18 go_big_quiet_step (fail)
                refine wpQuiet_nil ?_
                intro w7 hw'
                have hb1 := past_out hw'
                clear hw'
                have hXC := hb1
                have cC : w7.cell? ⟨w.heap.size, tb.toNat, none⟩ = some (.int .i64 xb) := (hb1.cell (p := ⟨w.heap.size, tb.toNat, none⟩) z6).trans ftb6
                have cfC : w7.frozen? ⟨w.heap.size, tb.toNat, none⟩ = false := (hb1.frozen (p := ⟨w.heap.size, tb.toNat, none⟩) z6).trans (ff6 _)
                have HEC : Hid (w7.heap[w.heap.size]? = some (.cells (arrI 256 (updN E ta.toNat ya)) 3)) := (hb1.block _ z6).trans HE6.out
                have HTC : Hid (w7.heap[TBK]? = some (.cells #[.int .i64 ta, .int .i64 tb, .int .i64 tl, .int .i64 tsp] 28)) := (hb1.block _ zt6).trans HT6.out
                have hBC : Below w.heap.size w w7 := below_step hB6 hb1
                have hsC := hb1.size
                have HE8 : Hid ((w7.setCell ⟨w.heap.size, tb.toNat, none⟩ (.int .i64 (mn xb (ya + tl)))).heap[w.heap.size]? = some (.cells (arrI 256 (rlxB (T j) (rlxA (T j) E))) 3)) := by
                  have h := setArr (i := tb.toNat) (x := mn xb (ya + tl)) HEC.out
                  show _ = _
                  rw [h, HTJ.out]
                  unfold rlxB rlxA
                  dsimp only
                  rw [HXA.out, HXB.out, HYA.out, updN_same, updN_other (by omega), HXB.out]
                have hB8 : Below w.heap.size w (w7.setCell ⟨w.heap.size, tb.toNat, none⟩ (.int .i64 (mn xb (ya + tl)))) := by go_grown
                have HS8 := Lib.hid (HS.out.turn HTK.out hjn huj)
                clear hb1 t0 t1 t2 t3 tf ts fta6 ftb6 ff6 wsum hXC
                go_wp2
                go_roundw
                case rel => exact ⟨j + 1, _, by omega, by go_num, HS8, HE8, hB8⟩
                case measure => simp [intOf]; omega
            · obtain rfl : j = n := by omega
              have hR := HS.out.inv
              have hD := refDone_round HTK.out (distF_is HTK.out) HD.out hR.zero (fun i hi hu v w hg => HS.out.done i hi hu v w hg)
              have HR := Lib.hid hR
              have HD2 := Lib.hid hD
              clear hR hD
              go_wp2
              go_roundw
              case rel => exact ⟨k + 1, E, by omega, by go_num, HR, HD2, HE, hB3⟩
              case measure => simp [intOf]; omega
        · obtain rfl : k = 256 := by omega
          have HF2 : Hid (w2.heap[w.heap.size]? = some (.cells (arrI 256 (fun i => refF n T U to (i : Int))) 3)) := by
            show _ = _
            rw [HE0.out, arrI_congr fun i hi => ref_is HTK.out HI.out (by omega : 255 ≤ 256) HD.out hi]
          clear HI HD
          go_wp2
          go_returns
          exact ⟨_, rfl, Nat.le_refl _, HF2.out, hBw2⟩
end Go.Proofs.YtpkgadjglidnaaaDoor
