/-
  cable.distances: the least lengths, by a walk. Conditions: as stated. By an AI agent.
-/
import Derived.Test.YtpkgadjglidnaaaDoorCabA
import Derived.Test.YtpkgadjglidnaaaDoorArr
import Derived.Test.YtpkgadjglidnaaaDoorTail
import Derived.Test.YtpkgadjglidnaaaDoorStore
namespace Go.Proofs.YtpkgadjglidnaaaDoor
open Go Go.ChangeShapes Go.WideShapes Go.RowKit Go.ChangeAt
set_option linter.unusedVariables false
set_option linter.unusedSimpArgs false

theorem zero256 (w : World) : (zeroValue 56).run Tryd.prog w = .ok (.agg (arrI 256 (fun _ => 0))) w := by kernel_rfl
theorem info256 : (Tryd.prog.info? 56).map (fun i => i.size) = some 256 := by kernel_rfl
def BoolsAt (w : World) (v : Value) (n : Nat) (U : Nat → Bool) : Prop := SliceAt w v n 1 (fun i _ => .bool (U i))
theorem BoolsAt.below {w w' : World} {v : Value} {n : Nat} {U : Nat → Bool} (h : BoolsAt w v n U) (hb : Below w.heap.size w w') : BoolsAt w' v n U := SliceAt.below h hb
theorem BoolsAt.form {w : World} {v : Value} {n : Nat} {U : Nat → Bool} (h : BoolsAt w v n U) : ∃ (oa : Option Addr) (cap : Nat), v = .slice oa n cap ∧ n ≤ 9223372036854775807 ∧
    ∀ i, i < n → ∃ b off, oa = some ⟨b, off, none⟩ ∧ b < w.heap.size ∧ ∀ k, k < n → w.cell? ⟨b, off + k, none⟩ = some (.bool (U k)) := by
  obtain ⟨oa, cap, h1, h2, h3, h4⟩ := h
  refine ⟨oa, cap, h1, by omega, fun i hi => ?_⟩
  obtain ⟨b, off, e, hlt, hc⟩ := h4 (by omega)
  exact ⟨b, off, e, hlt, fun k hk => by have := hc k 0 hk (by decide); simpa using this⟩
def Stable (n : Nat) (T : Nat → Tr) (U : Nat → Bool) (F : Nat → Int) : Prop := ∀ i, i < n → U i = true → ¬ Imp F (T i).A.toNat (T i).B.toNat (T i).L ∧ ¬ Imp F (T i).B.toNat (T i).A.toNat (T i).L
theorem stable_done {n : Nat} {T : Nat → Tr} {U : Nat → Bool} {to : Int} (hT : ∀ i, i < n → (T i).ok) (hto : 0 ≤ to ∧ to ≤ 255) {F : Nat → Int} (h : FarInv n T U to F) (hs : Stable n T U F) : arrI 256 F = arrI 256 (fun i => distF n T U to (i : Int)) :=
  arrI_congr fun i hi => far_is hT (h.done hT hto fun i hi hu v w hg => by
    rcases hg with ⟨rfl, rfl⟩ | ⟨rfl, rfl⟩
    · exact (hs i hi hu).2
    · exact (hs i hi hu).1) hi
theorem oth_A (a b : Int) : othN a b a = b ∧ othB a b a = true := by simp [othN, othB]
theorem oth_B {a b : Int} (h : a ≠ b) : othN a b b = a ∧ othB a b b = true := by
  unfold othN othB
  rw [if_neg (fun e => h e.symm), if_pos rfl]
  simp
theorem start_arr (k : Nat) : arrI 256 (updN (fun k => if k < 256 then -1 else 0) k 0) = arrI 256 (updN (fun _ => -1) k 0) := arrI_congr fun i hi => by
  unfold updN
  (try dsimp only)
  split
  · rfl
  · first | rfl | rw [if_pos hi] | simp [hi]
def isT : Value → Nat
  | .bool true => 1
  | _ => 0
/-- a sweep that has gone through the first j trays, and k ends of the next one -/
structure Swp (n : Nat) (T : Nat → Tr) (U : Nat → Bool) (to : Int) (F0 : Nat → Int) (j k : Nat) (F : Nat → Int) (bb : Bool) : Prop where
  inv : FarInv n T U to F
  le : leftN F ≤ leftN F0
  lt : bb = true → leftN F < leftN F0
  same : bb = false → F = F0 ∧ (∀ i, i < j → U i = true → ¬ Imp F (T i).A.toNat (T i).B.toNat (T i).L ∧ ¬ Imp F (T i).B.toNat (T i).A.toNat (T i).L) ∧
    (1 ≤ k → ¬ Imp F (T j).A.toNat (T j).B.toNat (T j).L) ∧ (2 ≤ k → ¬ Imp F (T j).B.toNat (T j).A.toNat (T j).L)
section
variable {n : Nat} {T : Nat → Tr} {U : Nat → Bool} {to : Int} {F0 F : Nat → Int} {j k : Nat} {bb : Bool}
theorem Swp.start (h : FarInv n T U to F) : Swp n T U to F 0 0 F false := ⟨h, Nat.le_refl _, fun h => (by cases h), fun _ => ⟨rfl, fun i hi => (by omega), fun h => (by omega), fun h => (by omega)⟩⟩
theorem Swp.pass (h : Swp n T U to F0 j 0 F bb) (hu : U j = false) : Swp n T U to F0 (j + 1) 0 F bb := ⟨h.inv, h.le, h.lt, fun hb => by
  obtain ⟨e, h1, -, -⟩ := h.same hb
  refine ⟨e, fun i hi hui => ?_, fun h => by omega, fun h => by omega⟩
  by_cases e : i = j
  · subst e; rw [hu] at hui; cases hui
  · exact h1 i (by omega) hui⟩
theorem Swp.next (h : Swp n T U to F0 j 2 F bb) : Swp n T U to F0 (j + 1) 0 F bb := ⟨h.inv, h.le, h.lt, fun hb => by
  obtain ⟨e, h1, h2, h3⟩ := h.same hb
  refine ⟨e, fun i hi hui => ?_, fun h => by omega, fun h => by omega⟩
  by_cases e : i = j
  · subst e; exact ⟨h2 (by omega), h3 (by omega)⟩
  · exact h1 i (by omega) hui⟩
theorem Swp.stay0 (h : Swp n T U to F0 j 0 F bb) (hn : ¬ Imp F (T j).A.toNat (T j).B.toNat (T j).L) : Swp n T U to F0 j 1 F bb := ⟨h.inv, h.le, h.lt, fun hb => by
  obtain ⟨e, h1, h2, h3⟩ := h.same hb
  exact ⟨e, h1, fun _ => hn, fun h => by omega⟩⟩
theorem Swp.stay1 (h : Swp n T U to F0 j 1 F bb) (hn : ¬ Imp F (T j).B.toNat (T j).A.toNat (T j).L) : Swp n T U to F0 j 2 F bb := ⟨h.inv, h.le, h.lt, fun hb => by
  obtain ⟨e, h1, h2, h3⟩ := h.same hb
  exact ⟨e, h1, fun _ => h2 (by omega), fun _ => hn⟩⟩
theorem Swp.turn (hT : ∀ i, i < n → (T i).ok) (h : Swp n T U to F0 j k F bb) (k' : Nat) {v w : Int} (hj : j < n) (hu : U j = true) (hg : Goes (T j) v w) (him : Imp F w.toNat v.toNat (T j).L) : Swp n T U to F0 j k' (updN F v.toNat (F w.toNat + (T j).L)) true := by
  have := h.inv.step hT hj hu hg him
  exact ⟨this.1, (by have := h.le; omega), fun _ => (by have := h.le; omega), fun h => (by cases h)⟩
end

set_option maxHeartbeats 8000000 in
set_option maxRecDepth 20000 in
theorem distances_any (v u : Value) (n : Nat) (T : Nat → Tr) (U : Nat → Bool) (to : Int) (w : World) (h : TraysAt w v n T) (h' : BoolsAt w u n U) (hT : ∀ i, i < n → (T i).ok) (hto : 0 ≤ to ∧ to ≤ 255) :
    Calls Tryd.prog 32 #[v, u, .int .i64 to] w fun e w' => e = .returned (.agg (arrI 256 (fun i => distF n T U to (i : Int)))) ∧ Below w.heap.size w w' := by
  obtain ⟨oa, ca, rfl, hn, hel⟩ := h.form
  obtain ⟨ob, cb, rfl, hn', hub⟩ := h'.form
  have HEL := Lib.hid hel
  have HUB := Lib.hid hub
  have HTK := Lib.hid hT
  clear h h' hel hub hT
  go_enter Tryd.func32, Tryd.ntmps32
  go_wp2_with (refine wpList_alloc_all rfl 56 rfl _ zero256 ?_)
  go_loopw [16] (fun i wr => ∃ j : Nat, j ≤ 256 ∧ i = .int .i64 j ∧ Hid (wr.heap[w.heap.size + 1]? = some (.cells (arrI 256 (fun k => if k < j then -1 else 0)) 56)) ∧ Hid (wr.heap[w.heap.size]? = some (.cells (arrI 256 (fun _ => 0)) 56)) ∧ Below w.heap.size w wr) (fun i _ => 256 - (intOf i).toNat)
  case atStart =>
    refine ⟨0, by omega, rfl, ?_, ?_, by go_grown⟩
    · exact heapA_at _ _ _ (by simp)
    · exact (heapA_old _ _ _ (by simp)).trans (heapA_at _ _ _ rfl)
  case round =>
    obtain ⟨w1, rfl⟩ : ∃ x : World, x = wr := ⟨_, rfl⟩
    obtain ⟨j, hj, rfl, HF, HO, hBw1⟩ := hrel
    have zf := block_lt HF.out
    by_cases hlt : j < 256
    · have c0 : w1.cell? ⟨w.heap.size + 1, j, none⟩ = some (.int .i64 0) := by
        rw [arr_cell HF.out hlt]
        simp
      have cf := arr_frozen HF.out j
      have k0 : (0 : Int) ≤ (j : Int) := by omega
      have k1 : (j : Int) < 256 := by omega
      have HF2 : Hid ((w1.setCell ⟨w.heap.size + 1, j, none⟩ (.int .i64 (-1))).heap[w.heap.size + 1]? = some (.cells (arrI 256 (fun k => if k < j + 1 then -1 else 0)) 56)) := by
        show _ = _
        rw [setArr HF.out]
        congr 2
        refine arrI_congr fun i hi => ?_
        unfold updN
        (try dsimp only)
        by_cases e : i = j
        · rw [if_pos e, if_pos (by omega)]
        · rw [if_neg e]
          by_cases e2 : i < j
          · rw [if_pos e2, if_pos (by omega)]
          · rw [if_neg e2, if_neg (by omega)]
      have HO2 : Hid ((w1.setCell ⟨w.heap.size + 1, j, none⟩ (.int .i64 (-1))).heap[w.heap.size]? = some (.cells (arrI 256 (fun _ => 0)) 56)) := (heap_setCell_other _ _ _ _ (by show w.heap.size ≠ w.heap.size + 1; omega)).trans HO.out
      go_wp2
      go_roundw
      case rel => exact ⟨j + 1, by omega, by go_num, HF2, HO2, by go_grown⟩
      case measure => simp [intOf]; omega
    · have hj256 : j = 256 := by omega
      have kd : decide ((j : Int) < 256) = false := decide_eq_false (by omega)
      obtain ⟨J, hJ⟩ : ∃ J : Int, (j : Int) = J := ⟨_, rfl⟩
      rw [hJ] at kd ⊢
      replace HF : Hid (w1.heap[w.heap.size + 1]? = some (.cells (arrI 256 (fun k => if k < 256 then -1 else 0)) 56)) := by
        have h := HF.out
        rw [hj256] at h
        exact h
      clear hj hj256 hJ hlt j
      have c0 : w1.cell? ⟨w.heap.size + 1, to.toNat, none⟩ = some (.int .i64 (-1)) := by
        rw [arr_cell HF.out (by omega), if_pos (by omega)]
      have cf := arr_frozen HF.out to.toNat
      have h0 := hto.1
      have h1 : to < 256 := by omega
      have HS1 : Hid ((w1.setCell ⟨w.heap.size + 1, to.toNat, none⟩ (.int .i64 0)).heap[w.heap.size + 1]? = some (.cells (arrI 256 (updN (fun _ => -1) to.toNat 0)) 56)) := by
        show _ = _
        rw [setArr HF.out, start_arr]
      have HS0 : Hid ((w1.setCell ⟨w.heap.size + 1, to.toNat, none⟩ (.int .i64 0)).heap[w.heap.size]? = some (.cells (arrI 256 (fun _ => 0)) 56)) := (heap_setCell_other _ _ _ _ (by show w.heap.size ≠ w.heap.size + 1; omega)).trans HO.out
      go_wp2
      have hBs : Below w.heap.size w (w1.setCell ⟨w.heap.size + 1, to.toNat, none⟩ (.int .i64 0)) := by go_grown
      clear HF HO c0 cf zf
      go_loopw [9] (fun b wr => ∃ (F : Nat → Int) (bb : Bool), b = .bool bb ∧ Hid (FarInv n T U to F) ∧ Hid (bb = false → Stable n T U F) ∧ Hid (wr.heap[w.heap.size + 1]? = some (.cells (arrI 256 F) 56)) ∧ Hid (wr.heap[w.heap.size]? = some (.cells (arrI 256 (fun _ => 0)) 56)) ∧ Below w.heap.size w wr) (fun b wr => 2 * leftW wr (w.heap.size + 1) + isT b)
      case atStart => exact ⟨_, true, rfl, farInv_start hto, fun h => (by cases h), HS1, HS0, hBs⟩
      case round =>
        clear HS1 HS0 hBs
        obtain ⟨w2, rfl⟩ : ∃ x : World, x = wr := ⟨_, rfl⟩
        obtain ⟨F0, bb, rfl, HI, HST, HF, HO, hBw2⟩ := hrel
        have HFX := HF
        cases bb
        · have hst := stable_done HTK.out hto HI.out (HST.out rfl)
          have HF2 : Hid (w2.heap[w.heap.size + 1]? = some (.cells (arrI 256 (fun i => distF n T U to (i : Int))) 56)) := by
            show _ = _
            rw [← hst]; exact HF.out
          have HO2 := HO
          have hz2 := block_lt HF2.out
          clear HF HI hst HO HST HFX
          have HRS : (w2.setRow w.heap.size (arrI 256 (fun i : Nat => distF n T U to (i : Int)))).heap[w.heap.size]? = some (.cells (arrI 256 (fun i : Nat => distF n T U to (i : Int))) 56) := setRow_heap _ _ _ _ _ _ HO2.out
          have HBZ : Below w.heap.size w (w2.setRow w.heap.size (arrI 256 (fun i : Nat => distF n T U to (i : Int)))) := Stored.below hBw2 (stored_setRow HO2.out) (Nat.le_refl _)
          have HX1 := Lib.hid HRS
          have HX2 := Lib.hid HBZ
          clear HRS HBZ
          go_wp2_with (first | (refine bodyPost_ret (results_cell_row rfl _ _ w.heap.size _ _ _ (.array 256 3) rfl HX1.out Tryd.underlying56 rfl (by rw [arrI_size]; exact info256)) rfl ?_; exact ⟨rfl, HX2.out⟩) | (refine wpList_load_row rfl 56 _ rfl (w.heap.size + 1) rfl _ _ _ (.array 256 3) HF2.out Tryd.underlying56 rfl (by rw [arrI_size]; exact info256) ?_) | (refine wpList_store_row rfl 56 _ _ rfl w.heap.size _ rfl rfl _ _ HO2.out (by rw [arrI_size]; exact info256) (by rw [arrI_size, arrI_size]) (arrI_one _ _) ?_))
        · go_wp2
          go_loopw [9, 27] (fun b i wr => ∃ (j : Nat) (F : Nat → Int) (bb : Bool), j ≤ n ∧ i = .int .i64 j ∧ b = .bool bb ∧ Hid (Swp n T U to F0 j 0 F bb) ∧ Hid (wr.heap[w.heap.size + 1]? = some (.cells (arrI 256 F) 56)) ∧ Hid (wr.heap[w.heap.size]? = some (.cells (arrI 256 (fun _ => 0)) 56)) ∧ Below w.heap.size w wr) (fun _ i _ => n - (intOf i).toNat)
          case atStart => exact ⟨0, F0, false, by omega, rfl, rfl, Swp.start HI.out, HF, HO, hBw2⟩
          case round =>
            clear HF HO hBw2
            obtain ⟨w3, rfl⟩ : ∃ x : World, x = wr := ⟨_, rfl⟩
            obtain ⟨j, F, bb, hj, rfl, rfl, HSW, HF, HO, hB3⟩ := hrel
            have hz3 := block_lt HF.out
            by_cases hjn : j < n
            · obtain ⟨b1, f1, rfl, hbl1, hcl1⟩ := HEL.out j hjn
              obtain ⟨b2, f2, rfl, hbl2, hcl2⟩ := HUB.out j hjn
              have c0 : w3.cell? ⟨b1, f1 + j * 4, none⟩ = some (.int .i64 (T j).A) := (hB3.cell (p := ⟨_, _, none⟩) hbl1).trans (hcl1 j hjn).1
              have c1 : w3.cell? ⟨b1, f1 + j * 4 + 1, none⟩ = some (.int .i64 (T j).B) := (hB3.cell (p := ⟨_, _, none⟩) hbl1).trans (hcl1 j hjn).2.1
              have c2 : w3.cell? ⟨b1, f1 + j * 4 + 2, none⟩ = some (.int .i64 (T j).L) := (hB3.cell (p := ⟨_, _, none⟩) hbl1).trans (hcl1 j hjn).2.2.1
              have c3 : w3.cell? ⟨b1, f1 + j * 4 + 3, none⟩ = some (.int .i64 (T j).S) := (hB3.cell (p := ⟨_, _, none⟩) hbl1).trans (hcl1 j hjn).2.2.2
              have cu : w3.cell? ⟨b2, f2 + j, none⟩ = some (.bool (U j)) := (hB3.cell (p := ⟨_, _, none⟩) hbl2).trans (hcl2 j hjn)
              have hok := HTK.out j hjn
              unfold Tr.ok at hok
              obtain ⟨⟨ta, tb, tl, tsp⟩, htj⟩ : ∃ t, T j = t := ⟨_, rfl⟩
              rw [htj] at c0 c1 c2 c3 hok
              dsimp only at c0 c1 c2 c3 hok
              obtain ⟨q0, q1, q2, q3, q4, q5, q6, q7, hne⟩ := hok
              have q1' : ta < 256 := by omega
              have q3' : tb < 256 := by omega
              have HTJ := Lib.hid htj
              have hbr1 : b1 < w3.heap.size := by have := hB3.size; omega
              have hbr2 : b2 < w3.heap.size := by have := hB3.size; omega
              have k0 : (0 : Int) ≤ (j : Int) := by omega
              have k1 : (j : Int) < (n : Int) := by omega
              clear hcl1 hcl2 htj
              cases hu : U j
              · have HS2 : Hid (Swp n T U to F0 (j + 1) 0 F bb) := HSW.out.pass hu
                rw [hu] at cu
                clear hu
                have HF3 : Hid ((w3.alloc (.cells #[.int .i64 ta, .int .i64 tb, .int .i64 tl, .int .i64 tsp] 28)).heap[w.heap.size + 1]? = some (.cells (arrI 256 F) 56)) := (heapA_old _ _ _ hz3).trans HF.out
                have HO3 : Hid ((w3.alloc (.cells #[.int .i64 ta, .int .i64 tb, .int .i64 tl, .int .i64 tsp] 28)).heap[w.heap.size]? = some (.cells (arrI 256 (fun _ => 0)) 56)) := (heapA_old _ _ _ (by omega)).trans HO.out
                go_wp2
                go_roundw
                case rel => exact ⟨j + 1, F, bb, by omega, by go_num, rfl, HS2, HF3, HO3, by go_grown⟩
                case measure => simp [intOf]; omega
              · rw [hu] at cu
                have huj : U j = true := hu
                clear hu
                obtain ⟨TBK, hTBK⟩ : ∃ b, w3.heap.size = b := ⟨_, rfl⟩
                have dTB : w.heap.size + 1 < TBK := by omega
                have HF3 : Hid ((w3.alloc (.cells #[.int .i64 ta, .int .i64 tb, .int .i64 tl, .int .i64 tsp] 28)).heap[w.heap.size + 1]? = some (.cells (arrI 256 F) 56)) := (heapA_old _ _ _ hz3).trans HF.out
                have HO3 : Hid ((w3.alloc (.cells #[.int .i64 ta, .int .i64 tb, .int .i64 tl, .int .i64 tsp] 28)).heap[w.heap.size]? = some (.cells (arrI 256 (fun _ => 0)) 56)) := (heapA_old _ _ _ (by omega)).trans HO.out
                have HT3 : Hid ((w3.alloc (.cells #[.int .i64 ta, .int .i64 tb, .int .i64 tl, .int .i64 tsp] 28)).heap[TBK]? = some (.cells #[.int .i64 ta, .int .i64 tb, .int .i64 tl, .int .i64 tsp] 28)) := heapA_at _ _ _ hTBK.symm
                have hts3 : TBK < (w3.alloc (.cells #[.int .i64 ta, .int .i64 tb, .int .i64 tl, .int .i64 tsp] 28)).heap.size := by simp <;> omega
                have HTBK := Lib.hid hTBK
                clear hTBK
                go_wp2
                have hTBK := HTBK.out
                rw [hTBK]
                have hB3 : Below w.heap.size w (w3.alloc (.cells #[.int .i64 ta, .int .i64 tb, .int .i64 tl, .int .i64 tsp] 28)) := by go_grown
                clear hTBK c0 c1 c2 c3 cu
                go_loopw [9, 42] (fun b i wr => ∃ (k : Nat) (F : Nat → Int) (bb : Bool), k ≤ 2 ∧ i = .int .i64 k ∧ b = .bool bb ∧ Hid (Swp n T U to F0 j k F bb) ∧ Hid (wr.heap[w.heap.size + 1]? = some (.cells (arrI 256 F) 56)) ∧ Hid (wr.heap[w.heap.size]? = some (.cells (arrI 256 (fun _ => 0)) 56)) ∧ Hid (wr.heap[TBK]? = some (.cells #[.int .i64 ta, .int .i64 tb, .int .i64 tl, .int .i64 tsp] 28)) ∧ TBK < wr.heap.size ∧ Below w.heap.size w wr) (fun _ i _ => 2 - (intOf i).toNat)
                case atStart => exact ⟨0, F, bb, by omega, rfl, rfl, HSW, HF3, HO3, HT3, hts3, hB3⟩
                case round =>
                  clear HF3 HO3 HT3 hts3 hB3 HSW
                  obtain ⟨w4, rfl⟩ : ∃ x : World, x = wr := ⟨_, rfl⟩
                  obtain ⟨k, F, bb, hk2, rfl, rfl, HSW, HF, HO, HTB, hts4, hBw4⟩ := hrel
                  obtain rfl | rfl | rfl : k = 0 ∨ k = 1 ∨ k = 2 := by omega
                  · have m0 := HTB.out
                    obtain ⟨t0, t1, t2, t3, tf, ts⟩ := cells_at4 m0
                    have fa : w4.cell? ⟨w.heap.size + 1, ta.toNat, none⟩ = some (.int .i64 (F ta.toNat)) := arr_cell HF.out (by omega)
                    have fb : w4.cell? ⟨w.heap.size + 1, tb.toNat, none⟩ = some (.int .i64 (F tb.toNat)) := arr_cell HF.out (by omega)
                    have ff := arr_frozen HF.out
                    have fsz := block_lt HF.out
                    obtain ⟨xa, hxa⟩ : ∃ x, F ta.toNat = x := ⟨_, rfl⟩
                    obtain ⟨xb, hxb⟩ : ∃ x, F tb.toNat = x := ⟨_, rfl⟩
                    have hla := HSW.out.inv.low ta.toNat (by omega)
                    have hlb := HSW.out.inv.low tb.toNat (by omega)
                    have hba := HSW.out.inv.bound (i := ta.toNat) (by omega)
                    have hbb := HSW.out.inv.bound (i := tb.toNat) (by omega)
                    rw [hxa] at fa hla hba
                    rw [hxb] at fb hlb hbb
                    have HXA := Lib.hid hxa
                    have HXB := Lib.hid hxb
                    have wsum : IntKind.i64.wrap (xa + tl) = xa + tl := IntWalk.i64_in _ (by omega)
                    have hidx : ∀ (W : World), (Instr.index 65 (.agg #[.int .i64 ta, .int .i64 tb]) (.int .i64 0)).run Tryd.prog W = .ok (.int .i64 ta) W := fun _ => by kernel_rfl
                    have hoth := oth_A ta tb
                    clear hxa hxb m0
                    go_wp2_with fail
                    (go_at_call 33; refine (other_any ta tb tl tsp ta _).mono ?_; rintro e_ w5 ⟨rfl, hb⟩)
                    rw [hoth.1, hoth.2]
                    have HB45 := Lib.hid hb
                    have hsz5 := hb.size
                    have fa5 : w5.cell? ⟨w.heap.size + 1, ta.toNat, none⟩ = some (.int .i64 xa) := (hb.cell (p := ⟨_, _, none⟩) fsz).trans fa
                    have fb5 : w5.cell? ⟨w.heap.size + 1, tb.toNat, none⟩ = some (.int .i64 xb) := (hb.cell (p := ⟨_, _, none⟩) fsz).trans fb
                    have t25 : w5.cell? ⟨TBK, 2, none⟩ = some (.int .i64 tl) := (hb.cell (p := ⟨_, _, none⟩) ts).trans t2
                    have z5 : w.heap.size + 1 < w5.heap.size := by omega
                    have zt5 : TBK < w5.heap.size := by omega
                    have h5 : Below w.heap.size w w5 := below_step hBw4 hb
                    have HF5 : Hid (w5.heap[w.heap.size + 1]? = some (.cells (arrI 256 F) 56)) := (hb.block _ fsz).trans HF.out
                    have HO5 : Hid (w5.heap[w.heap.size]? = some (.cells (arrI 256 (fun _ => 0)) 56)) := (hb.block _ (by omega)).trans HO.out
                    have HT5 : Hid (w5.heap[TBK]? = some (.cells #[.int .i64 ta, .int .i64 tb, .int .i64 tl, .int .i64 tsp] 28)) := (hb.block _ ts).trans HTB.out
                    clear hb fa fb t0 t1 t2 t3 tf ff
                    by_cases c0 : 0 ≤ xa
                    · have k0 : decide (0 ≤ xa) = true := decide_eq_true c0
                      by_cases c1 : xb < 0
                      · have k1 : decide (xb < 0) = true := decide_eq_true c1
                        go_wp2_with fail
                        refine wp_region_relw 22 (by kernel_rfl) (by kernel_rfl) (by kernel_rfl) ?_
                        simp only [List.take_succ_cons, List.take_zero, fillL, Act.put, List.setIfInBounds_toArray, List.set_cons_zero, List.set_cons_succ]
                        iterate 22
                          apply rel_is
                          · intro u wx hb hd
                            have hz := hb.size
                            (try simp only [World.size_alloc, World.size_setCell] at hz)
                            have hz0 : w.heap.size + 1 < wx.heap.size := by omega
                            have hz1 : TBK < wx.heap.size := by omega
                            obtain ⟨hc, hf⟩ := bcell hb
                            have HBX := Lib.hid hb
                            clear hb hz
                            simp [depsS, Region.binds, updS, Stay.is, Stay.any] at hd
                            go_simp
                            first | exact ⟨Below.refl _ _, rfl⟩ | rfl
                        intro u w6 hb hE
                        have e0 : u 0 = _ := endS_get hE 0 (by decide)
                        have e1 : u 1 = _ := endS_get hE 1 (by decide)
                        have e2 : u 2 = _ := endS_get hE 2 (by decide)
                        have e3 : u 3 = _ := endS_get hE 3 (by decide)
                        have e4 : u 4 = _ := endS_get hE 4 (by decide)
                        have e5 : u 5 = _ := endS_get hE 5 (by decide)
                        have e6 : u 6 = _ := endS_get hE 6 (by decide)
                        have e7 : u 7 = _ := endS_get hE 7 (by decide)
                        have e8 : u 8 = _ := endS_get hE 8 (by decide)
                        have e9 : u 9 = _ := endS_get hE 9 (by decide)
                        have e10 : u 10 = _ := endS_get hE 10 (by decide)
                        have e11 : u 11 = _ := endS_get hE 11 (by decide)
                        have e12 : u 12 = _ := endS_get hE 12 (by decide)
                        have e13 : u 13 = _ := endS_get hE 13 (by decide)
                        have e14 : u 14 = _ := endS_get hE 14 (by decide)
                        have e15 : u 15 = _ := endS_get hE 15 (by decide)
                        have e16 : u 16 = _ := endS_get hE 16 (by decide)
                        have e17 : u 17 = _ := endS_get hE 17 (by decide)
                        have e18 : u 18 = _ := endS_get hE 18 (by decide)
                        have e19 : u 19 = _ := endS_get hE 19 (by decide)
                        have e20 : u 20 = _ := endS_get hE 20 (by decide)
                        have e21 : u 21 = _ := endS_get hE 21 (by decide)
                        simp only [List.drop_succ_cons, List.drop_zero, List.take_succ_cons, List.take_zero, fillL, Act.put, List.setIfInBounds_toArray, List.set_cons_zero, List.set_cons_succ, e0, e1, e2, e3, e4, e5, e6, e7, e8, e9, e10, e11, e12, e13, e14, e15, e16, e17, e18, e19, e20, e21]
                        clear e0 e1 e2 e3 e4 e5 e6 e7 e8 e9 e10 e11 e12 e13 e14 e15 e16 e17 e18 e19 e20 e21 hE
                        have HBw6 := Lib.hid (below_step (w := w5) (by first | assumption | go_grown) hb)
                        have HBXw6 := Lib.hid hb
                        have hzw6 := hb.size
                        (try simp only [World.size_alloc, World.size_setCell] at hzw6)
                        have hzw60 : w.heap.size + 1 < w6.heap.size := by omega
                        have hzw61 : TBK < w6.heap.size := by omega
                        obtain ⟨hcw6, hfw6⟩ := bcell hb
                        clear hb hzw6
                        have hBX := HBXw6.out
                        have HF6 : Hid (w6.heap[w.heap.size + 1]? = some (.cells (arrI 256 F) 56)) := (hBX.block _ z5).trans HF5.out
                        have HO6 : Hid (w6.heap[w.heap.size]? = some (.cells (arrI 256 (fun _ => 0)) 56)) := (hBX.block _ (by omega)).trans HO5.out
                        have HT6 : Hid (w6.heap[TBK]? = some (.cells #[.int .i64 ta, .int .i64 tb, .int .i64 tl, .int .i64 tsp] 28)) := (hBX.block _ zt5).trans HT5.out
                        have hB6 : Below w.heap.size w w6 := below_step h5 hBX
                        have HS6 : Hid (Swp n T U to F0 j 1 (updN F tb.toNat (xa + tl)) true) := by
                          have h := HSW.out.turn HTK.out 1 (v := tb) (w := ta) hjn huj (by have e3 := HTJ.out; rw [e3]; exact .inr ⟨rfl, rfl⟩) (by have e1 := HXA.out; have e2 := HXB.out; have e3 := HTJ.out; rw [e3]; dsimp only; unfold Imp; rw [e1, e2]; omega)
                          have e1 := HXA.out
                          have e3 := HTJ.out
                          rw [e3] at h
                          dsimp only at h
                          rw [e1] at h
                          exact h
                        have hsz6 : w.heap.size + 1 < w6.heap.size := by have := hBX.size; omega
                        have hszt6 : TBK < w6.heap.size := by have := hBX.size; omega
                        have fa6 : w6.cell? ⟨w.heap.size + 1, ta.toNat, none⟩ = some (.int .i64 xa) := (hBX.cell (p := ⟨_, _, none⟩) z5).trans fa5
                        have fb6 : w6.cell? ⟨w.heap.size + 1, tb.toNat, none⟩ = some (.int .i64 xb) := (hBX.cell (p := ⟨_, _, none⟩) z5).trans fb5
                        have t26 : w6.cell? ⟨TBK, 2, none⟩ = some (.int .i64 tl) := (hBX.cell (p := ⟨_, _, none⟩) zt5).trans t25
                        have ff6 := arr_frozen HF6.out
                        clear hBX hcw6 hfw6 fa5 fb5 t25
                        have hpc := past_cell
                        have hpf := Past.frozen (W := w6)
                        go_wp2_with fail
                        refine wp_region_past_tail 8 (by kernel_rfl) (by kernel_rfl) ?_
                        simp only [List.take_succ_cons, List.take_zero, List.drop_succ_cons, List.drop_zero]
                        iterate 8 go_big_quiet_step (fail)
                        refine wpQuiet_nil ?_
                        intro w7 hw'
                        have hb1 := past_out hw'
                        clear hw'
                        have hBX7 := hb1
                        have z6' : TBK < w6.heap.size := hszt6
                        have fb7 : w7.cell? ⟨w.heap.size + 1, tb.toNat, none⟩ = some (.int .i64 xb) := (hBX7.cell (p := ⟨_, _, none⟩) hsz6).trans fb6
                        have ff7 : w7.frozen? ⟨w.heap.size + 1, tb.toNat, none⟩ = false := (hBX7.frozen (p := ⟨_, _, none⟩) hsz6).trans (ff6 _)
                        have HF7 : Hid (w7.heap[w.heap.size + 1]? = some (.cells (arrI 256 F) 56)) := (hBX7.block _ hsz6).trans HF6.out
                        have HO7 : Hid (w7.heap[w.heap.size]? = some (.cells (arrI 256 (fun _ => 0)) 56)) := (hBX7.block _ (by omega)).trans HO6.out
                        have HT7 : Hid (w7.heap[TBK]? = some (.cells #[.int .i64 ta, .int .i64 tb, .int .i64 tl, .int .i64 tsp] 28)) := (hBX7.block _ z6').trans HT6.out
                        have hB7 : Below w.heap.size w w7 := below_step hB6 hBX7
                        have hs7 := hBX7.size
                        have HF8 : Hid ((w7.setCell ⟨w.heap.size + 1, tb.toNat, none⟩ (.int .i64 (xa + tl))).heap[w.heap.size + 1]? = some (.cells (arrI 256 (updN F tb.toNat (xa + tl))) 56)) := setArr HF7.out
                        have HO8 : Hid ((w7.setCell ⟨w.heap.size + 1, tb.toNat, none⟩ (.int .i64 (xa + tl))).heap[w.heap.size]? = some (.cells (arrI 256 (fun _ => 0)) 56)) := (heap_setCell_other _ _ _ _ (by show w.heap.size ≠ w.heap.size + 1; omega)).trans HO7.out
                        have HT8 : Hid ((w7.setCell ⟨w.heap.size + 1, tb.toNat, none⟩ (.int .i64 (xa + tl))).heap[TBK]? = some (.cells #[.int .i64 ta, .int .i64 tb, .int .i64 tl, .int .i64 tsp] 28)) := (heap_setCell_other _ _ _ _ (by show TBK ≠ w.heap.size + 1; omega)).trans HT7.out
                        have z7 : TBK < w7.heap.size := by omega
                        clear hb1 hBX7 hs7 fa6 fb6 t26 ff6 hpc hpf
                        go_wp2
                        go_roundw
                        case rel => exact ⟨1, _, true, by omega, rfl, rfl, HS6, HF8, HO8, HT8, by simp <;> omega, by go_grown⟩
                        case measure => simp [intOf] <;> omega
                      · have k1 : decide (xb < 0) = false := decide_eq_false c1
                        by_cases c2 : xa + tl < xb
                        · have k2 : decide (xa + tl < xb) = true := decide_eq_true c2
                          go_wp2_with fail
                          refine wp_region_relw 22 (by kernel_rfl) (by kernel_rfl) (by kernel_rfl) ?_
                          simp only [List.take_succ_cons, List.take_zero, fillL, Act.put, List.setIfInBounds_toArray, List.set_cons_zero, List.set_cons_succ]
                          iterate 22
                            apply rel_is
                            · intro u wx hb hd
                              have hz := hb.size
                              (try simp only [World.size_alloc, World.size_setCell] at hz)
                              have hz0 : w.heap.size + 1 < wx.heap.size := by omega
                              have hz1 : TBK < wx.heap.size := by omega
                              obtain ⟨hc, hf⟩ := bcell hb
                              have HBX := Lib.hid hb
                              clear hb hz
                              simp [depsS, Region.binds, updS, Stay.is, Stay.any] at hd
                              go_simp
                              first | exact ⟨Below.refl _ _, rfl⟩ | rfl
                          intro u w6 hb hE
                          have e0 : u 0 = _ := endS_get hE 0 (by decide)
                          have e1 : u 1 = _ := endS_get hE 1 (by decide)
                          have e2 : u 2 = _ := endS_get hE 2 (by decide)
                          have e3 : u 3 = _ := endS_get hE 3 (by decide)
                          have e4 : u 4 = _ := endS_get hE 4 (by decide)
                          have e5 : u 5 = _ := endS_get hE 5 (by decide)
                          have e6 : u 6 = _ := endS_get hE 6 (by decide)
                          have e7 : u 7 = _ := endS_get hE 7 (by decide)
                          have e8 : u 8 = _ := endS_get hE 8 (by decide)
                          have e9 : u 9 = _ := endS_get hE 9 (by decide)
                          have e10 : u 10 = _ := endS_get hE 10 (by decide)
                          have e11 : u 11 = _ := endS_get hE 11 (by decide)
                          have e12 : u 12 = _ := endS_get hE 12 (by decide)
                          have e13 : u 13 = _ := endS_get hE 13 (by decide)
                          have e14 : u 14 = _ := endS_get hE 14 (by decide)
                          have e15 : u 15 = _ := endS_get hE 15 (by decide)
                          have e16 : u 16 = _ := endS_get hE 16 (by decide)
                          have e17 : u 17 = _ := endS_get hE 17 (by decide)
                          have e18 : u 18 = _ := endS_get hE 18 (by decide)
                          have e19 : u 19 = _ := endS_get hE 19 (by decide)
                          have e20 : u 20 = _ := endS_get hE 20 (by decide)
                          have e21 : u 21 = _ := endS_get hE 21 (by decide)
                          simp only [List.drop_succ_cons, List.drop_zero, List.take_succ_cons, List.take_zero, fillL, Act.put, List.setIfInBounds_toArray, List.set_cons_zero, List.set_cons_succ, e0, e1, e2, e3, e4, e5, e6, e7, e8, e9, e10, e11, e12, e13, e14, e15, e16, e17, e18, e19, e20, e21]
                          clear e0 e1 e2 e3 e4 e5 e6 e7 e8 e9 e10 e11 e12 e13 e14 e15 e16 e17 e18 e19 e20 e21 hE
                          have HBw6 := Lib.hid (below_step (w := w5) (by first | assumption | go_grown) hb)
                          have HBXw6 := Lib.hid hb
                          have hzw6 := hb.size
                          (try simp only [World.size_alloc, World.size_setCell] at hzw6)
                          have hzw60 : w.heap.size + 1 < w6.heap.size := by omega
                          have hzw61 : TBK < w6.heap.size := by omega
                          obtain ⟨hcw6, hfw6⟩ := bcell hb
                          clear hb hzw6
                          have hBX := HBXw6.out
                          have HF6 : Hid (w6.heap[w.heap.size + 1]? = some (.cells (arrI 256 F) 56)) := (hBX.block _ z5).trans HF5.out
                          have HO6 : Hid (w6.heap[w.heap.size]? = some (.cells (arrI 256 (fun _ => 0)) 56)) := (hBX.block _ (by omega)).trans HO5.out
                          have HT6 : Hid (w6.heap[TBK]? = some (.cells #[.int .i64 ta, .int .i64 tb, .int .i64 tl, .int .i64 tsp] 28)) := (hBX.block _ zt5).trans HT5.out
                          have hB6 : Below w.heap.size w w6 := below_step h5 hBX
                          have HS6 : Hid (Swp n T U to F0 j 1 (updN F tb.toNat (xa + tl)) true) := by
                            have h := HSW.out.turn HTK.out 1 (v := tb) (w := ta) hjn huj (by have e3 := HTJ.out; rw [e3]; exact .inr ⟨rfl, rfl⟩) (by have e1 := HXA.out; have e2 := HXB.out; have e3 := HTJ.out; rw [e3]; dsimp only; unfold Imp; rw [e1, e2]; omega)
                            have e1 := HXA.out
                            have e3 := HTJ.out
                            rw [e3] at h
                            dsimp only at h
                            rw [e1] at h
                            exact h
                          have hsz6 : w.heap.size + 1 < w6.heap.size := by have := hBX.size; omega
                          have hszt6 : TBK < w6.heap.size := by have := hBX.size; omega
                          have fa6 : w6.cell? ⟨w.heap.size + 1, ta.toNat, none⟩ = some (.int .i64 xa) := (hBX.cell (p := ⟨_, _, none⟩) z5).trans fa5
                          have fb6 : w6.cell? ⟨w.heap.size + 1, tb.toNat, none⟩ = some (.int .i64 xb) := (hBX.cell (p := ⟨_, _, none⟩) z5).trans fb5
                          have t26 : w6.cell? ⟨TBK, 2, none⟩ = some (.int .i64 tl) := (hBX.cell (p := ⟨_, _, none⟩) zt5).trans t25
                          have ff6 := arr_frozen HF6.out
                          clear hBX hcw6 hfw6 fa5 fb5 t25
                          have hpc := past_cell
                          have hpf := Past.frozen (W := w6)
                          go_wp2_with fail
                          refine wp_region_past_tail 8 (by kernel_rfl) (by kernel_rfl) ?_
                          simp only [List.take_succ_cons, List.take_zero, List.drop_succ_cons, List.drop_zero]
                          iterate 8 go_big_quiet_step (fail)
                          refine wpQuiet_nil ?_
                          intro w7 hw'
                          have hb1 := past_out hw'
                          clear hw'
                          have hBX7 := hb1
                          have z6' : TBK < w6.heap.size := hszt6
                          have fb7 : w7.cell? ⟨w.heap.size + 1, tb.toNat, none⟩ = some (.int .i64 xb) := (hBX7.cell (p := ⟨_, _, none⟩) hsz6).trans fb6
                          have ff7 : w7.frozen? ⟨w.heap.size + 1, tb.toNat, none⟩ = false := (hBX7.frozen (p := ⟨_, _, none⟩) hsz6).trans (ff6 _)
                          have HF7 : Hid (w7.heap[w.heap.size + 1]? = some (.cells (arrI 256 F) 56)) := (hBX7.block _ hsz6).trans HF6.out
                          have HO7 : Hid (w7.heap[w.heap.size]? = some (.cells (arrI 256 (fun _ => 0)) 56)) := (hBX7.block _ (by omega)).trans HO6.out
                          have HT7 : Hid (w7.heap[TBK]? = some (.cells #[.int .i64 ta, .int .i64 tb, .int .i64 tl, .int .i64 tsp] 28)) := (hBX7.block _ z6').trans HT6.out
                          have hB7 : Below w.heap.size w w7 := below_step hB6 hBX7
                          have hs7 := hBX7.size
                          have HF8 : Hid ((w7.setCell ⟨w.heap.size + 1, tb.toNat, none⟩ (.int .i64 (xa + tl))).heap[w.heap.size + 1]? = some (.cells (arrI 256 (updN F tb.toNat (xa + tl))) 56)) := setArr HF7.out
                          have HO8 : Hid ((w7.setCell ⟨w.heap.size + 1, tb.toNat, none⟩ (.int .i64 (xa + tl))).heap[w.heap.size]? = some (.cells (arrI 256 (fun _ => 0)) 56)) := (heap_setCell_other _ _ _ _ (by show w.heap.size ≠ w.heap.size + 1; omega)).trans HO7.out
                          have HT8 : Hid ((w7.setCell ⟨w.heap.size + 1, tb.toNat, none⟩ (.int .i64 (xa + tl))).heap[TBK]? = some (.cells #[.int .i64 ta, .int .i64 tb, .int .i64 tl, .int .i64 tsp] 28)) := (heap_setCell_other _ _ _ _ (by show TBK ≠ w.heap.size + 1; omega)).trans HT7.out
                          have z7 : TBK < w7.heap.size := by omega
                          clear hb1 hBX7 hs7 fa6 fb6 t26 ff6 hpc hpf
                          go_wp2
                          go_roundw
                          case rel => exact ⟨1, _, true, by omega, rfl, rfl, HS6, HF8, HO8, HT8, by simp <;> omega, by go_grown⟩
                          case measure => simp [intOf] <;> omega
                        · have k2 : decide (xa + tl < xb) = false := decide_eq_false c2
                          go_wp2_with fail
                          refine wp_region_relw 22 (by kernel_rfl) (by kernel_rfl) (by kernel_rfl) ?_
                          simp only [List.take_succ_cons, List.take_zero, fillL, Act.put, List.setIfInBounds_toArray, List.set_cons_zero, List.set_cons_succ]
                          iterate 22
                            apply rel_is
                            · intro u wx hb hd
                              have hz := hb.size
                              (try simp only [World.size_alloc, World.size_setCell] at hz)
                              have hz0 : w.heap.size + 1 < wx.heap.size := by omega
                              have hz1 : TBK < wx.heap.size := by omega
                              obtain ⟨hc, hf⟩ := bcell hb
                              have HBX := Lib.hid hb
                              clear hb hz
                              simp [depsS, Region.binds, updS, Stay.is, Stay.any] at hd
                              go_simp
                              first | exact ⟨Below.refl _ _, rfl⟩ | rfl
                          intro u w6 hb hE
                          have e0 : u 0 = _ := endS_get hE 0 (by decide)
                          have e1 : u 1 = _ := endS_get hE 1 (by decide)
                          have e2 : u 2 = _ := endS_get hE 2 (by decide)
                          have e3 : u 3 = _ := endS_get hE 3 (by decide)
                          have e4 : u 4 = _ := endS_get hE 4 (by decide)
                          have e5 : u 5 = _ := endS_get hE 5 (by decide)
                          have e6 : u 6 = _ := endS_get hE 6 (by decide)
                          have e7 : u 7 = _ := endS_get hE 7 (by decide)
                          have e8 : u 8 = _ := endS_get hE 8 (by decide)
                          have e9 : u 9 = _ := endS_get hE 9 (by decide)
                          have e10 : u 10 = _ := endS_get hE 10 (by decide)
                          have e11 : u 11 = _ := endS_get hE 11 (by decide)
                          have e12 : u 12 = _ := endS_get hE 12 (by decide)
                          have e13 : u 13 = _ := endS_get hE 13 (by decide)
                          have e14 : u 14 = _ := endS_get hE 14 (by decide)
                          have e15 : u 15 = _ := endS_get hE 15 (by decide)
                          have e16 : u 16 = _ := endS_get hE 16 (by decide)
                          have e17 : u 17 = _ := endS_get hE 17 (by decide)
                          have e18 : u 18 = _ := endS_get hE 18 (by decide)
                          have e19 : u 19 = _ := endS_get hE 19 (by decide)
                          have e20 : u 20 = _ := endS_get hE 20 (by decide)
                          have e21 : u 21 = _ := endS_get hE 21 (by decide)
                          simp only [List.drop_succ_cons, List.drop_zero, List.take_succ_cons, List.take_zero, fillL, Act.put, List.setIfInBounds_toArray, List.set_cons_zero, List.set_cons_succ, e0, e1, e2, e3, e4, e5, e6, e7, e8, e9, e10, e11, e12, e13, e14, e15, e16, e17, e18, e19, e20, e21]
                          clear e0 e1 e2 e3 e4 e5 e6 e7 e8 e9 e10 e11 e12 e13 e14 e15 e16 e17 e18 e19 e20 e21 hE
                          have HBw6 := Lib.hid (below_step (w := w5) (by first | assumption | go_grown) hb)
                          have HBXw6 := Lib.hid hb
                          have hzw6 := hb.size
                          (try simp only [World.size_alloc, World.size_setCell] at hzw6)
                          have hzw60 : w.heap.size + 1 < w6.heap.size := by omega
                          have hzw61 : TBK < w6.heap.size := by omega
                          obtain ⟨hcw6, hfw6⟩ := bcell hb
                          clear hb hzw6
                          have hBX := HBXw6.out
                          have HF6 : Hid (w6.heap[w.heap.size + 1]? = some (.cells (arrI 256 F) 56)) := (hBX.block _ z5).trans HF5.out
                          have HO6 : Hid (w6.heap[w.heap.size]? = some (.cells (arrI 256 (fun _ => 0)) 56)) := (hBX.block _ (by omega)).trans HO5.out
                          have HT6 : Hid (w6.heap[TBK]? = some (.cells #[.int .i64 ta, .int .i64 tb, .int .i64 tl, .int .i64 tsp] 28)) := (hBX.block _ zt5).trans HT5.out
                          have hB6 : Below w.heap.size w w6 := below_step h5 hBX
                          have HS6 : Hid (Swp n T U to F0 j 1 F bb) := HSW.out.stay0 (by have e1 := HXA.out; have e2 := HXB.out; have e3 := HTJ.out; rw [e3]; dsimp only; unfold Imp; rw [e1, e2]; omega)
                          have hsz6 : w.heap.size + 1 < w6.heap.size := by have := hBX.size; omega
                          have hszt6 : TBK < w6.heap.size := by have := hBX.size; omega
                          clear hBX hcw6 hfw6
                          go_wp2
                          go_roundw
                          case rel => exact ⟨1, F, bb, by omega, rfl, rfl, HS6, HF6, HO6, HT6, hszt6, hB6⟩
                          case measure => simp [intOf] <;> omega
                    · have k0 : decide (0 ≤ xa) = false := decide_eq_false c0
                      go_wp2_with fail
                      refine wp_region_relw 22 (by kernel_rfl) (by kernel_rfl) (by kernel_rfl) ?_
                      simp only [List.take_succ_cons, List.take_zero, fillL, Act.put, List.setIfInBounds_toArray, List.set_cons_zero, List.set_cons_succ]
                      iterate 22
                        apply rel_is
                        · intro u wx hb hd
                          have hz := hb.size
                          (try simp only [World.size_alloc, World.size_setCell] at hz)
                          have hz0 : w.heap.size + 1 < wx.heap.size := by omega
                          have hz1 : TBK < wx.heap.size := by omega
                          obtain ⟨hc, hf⟩ := bcell hb
                          have HBX := Lib.hid hb
                          clear hb hz
                          simp [depsS, Region.binds, updS, Stay.is, Stay.any] at hd
                          go_simp
                          first | exact ⟨Below.refl _ _, rfl⟩ | rfl
                      intro u w6 hb hE
                      have e0 : u 0 = _ := endS_get hE 0 (by decide)
                      have e1 : u 1 = _ := endS_get hE 1 (by decide)
                      have e2 : u 2 = _ := endS_get hE 2 (by decide)
                      have e3 : u 3 = _ := endS_get hE 3 (by decide)
                      have e4 : u 4 = _ := endS_get hE 4 (by decide)
                      have e5 : u 5 = _ := endS_get hE 5 (by decide)
                      have e6 : u 6 = _ := endS_get hE 6 (by decide)
                      have e7 : u 7 = _ := endS_get hE 7 (by decide)
                      have e8 : u 8 = _ := endS_get hE 8 (by decide)
                      have e9 : u 9 = _ := endS_get hE 9 (by decide)
                      have e10 : u 10 = _ := endS_get hE 10 (by decide)
                      have e11 : u 11 = _ := endS_get hE 11 (by decide)
                      have e12 : u 12 = _ := endS_get hE 12 (by decide)
                      have e13 : u 13 = _ := endS_get hE 13 (by decide)
                      have e14 : u 14 = _ := endS_get hE 14 (by decide)
                      have e15 : u 15 = _ := endS_get hE 15 (by decide)
                      have e16 : u 16 = _ := endS_get hE 16 (by decide)
                      have e17 : u 17 = _ := endS_get hE 17 (by decide)
                      have e18 : u 18 = _ := endS_get hE 18 (by decide)
                      have e19 : u 19 = _ := endS_get hE 19 (by decide)
                      have e20 : u 20 = _ := endS_get hE 20 (by decide)
                      have e21 : u 21 = _ := endS_get hE 21 (by decide)
                      simp only [List.drop_succ_cons, List.drop_zero, List.take_succ_cons, List.take_zero, fillL, Act.put, List.setIfInBounds_toArray, List.set_cons_zero, List.set_cons_succ, e0, e1, e2, e3, e4, e5, e6, e7, e8, e9, e10, e11, e12, e13, e14, e15, e16, e17, e18, e19, e20, e21]
                      clear e0 e1 e2 e3 e4 e5 e6 e7 e8 e9 e10 e11 e12 e13 e14 e15 e16 e17 e18 e19 e20 e21 hE
                      have HBw6 := Lib.hid (below_step (w := w5) (by first | assumption | go_grown) hb)
                      have HBXw6 := Lib.hid hb
                      have hzw6 := hb.size
                      (try simp only [World.size_alloc, World.size_setCell] at hzw6)
                      have hzw60 : w.heap.size + 1 < w6.heap.size := by omega
                      have hzw61 : TBK < w6.heap.size := by omega
                      obtain ⟨hcw6, hfw6⟩ := bcell hb
                      clear hb hzw6
                      have hBX := HBXw6.out
                      have HF6 : Hid (w6.heap[w.heap.size + 1]? = some (.cells (arrI 256 F) 56)) := (hBX.block _ z5).trans HF5.out
                      have HO6 : Hid (w6.heap[w.heap.size]? = some (.cells (arrI 256 (fun _ => 0)) 56)) := (hBX.block _ (by omega)).trans HO5.out
                      have HT6 : Hid (w6.heap[TBK]? = some (.cells #[.int .i64 ta, .int .i64 tb, .int .i64 tl, .int .i64 tsp] 28)) := (hBX.block _ zt5).trans HT5.out
                      have hB6 : Below w.heap.size w w6 := below_step h5 hBX
                      have HS6 : Hid (Swp n T U to F0 j 1 F bb) := HSW.out.stay0 (by have e1 := HXA.out; have e2 := HXB.out; have e3 := HTJ.out; rw [e3]; dsimp only; unfold Imp; rw [e1, e2]; omega)
                      have hsz6 : w.heap.size + 1 < w6.heap.size := by have := hBX.size; omega
                      have hszt6 : TBK < w6.heap.size := by have := hBX.size; omega
                      clear hBX hcw6 hfw6
                      go_wp2
                      go_roundw
                      case rel => exact ⟨1, F, bb, by omega, rfl, rfl, HS6, HF6, HO6, HT6, hszt6, hB6⟩
                      case measure => simp [intOf] <;> omega
                  · have m0 := HTB.out
                    obtain ⟨t0, t1, t2, t3, tf, ts⟩ := cells_at4 m0
                    have fa : w4.cell? ⟨w.heap.size + 1, ta.toNat, none⟩ = some (.int .i64 (F ta.toNat)) := arr_cell HF.out (by omega)
                    have fb : w4.cell? ⟨w.heap.size + 1, tb.toNat, none⟩ = some (.int .i64 (F tb.toNat)) := arr_cell HF.out (by omega)
                    have ff := arr_frozen HF.out
                    have fsz := block_lt HF.out
                    obtain ⟨xa, hxa⟩ : ∃ x, F ta.toNat = x := ⟨_, rfl⟩
                    obtain ⟨xb, hxb⟩ : ∃ x, F tb.toNat = x := ⟨_, rfl⟩
                    have hla := HSW.out.inv.low ta.toNat (by omega)
                    have hlb := HSW.out.inv.low tb.toNat (by omega)
                    have hba := HSW.out.inv.bound (i := ta.toNat) (by omega)
                    have hbb := HSW.out.inv.bound (i := tb.toNat) (by omega)
                    rw [hxa] at fa hla hba
                    rw [hxb] at fb hlb hbb
                    have HXA := Lib.hid hxa
                    have HXB := Lib.hid hxb
                    have wsum : IntKind.i64.wrap (xb + tl) = xb + tl := IntWalk.i64_in _ (by omega)
                    have hidx : ∀ (W : World), (Instr.index 65 (.agg #[.int .i64 ta, .int .i64 tb]) (.int .i64 1)).run Tryd.prog W = .ok (.int .i64 tb) W := fun _ => by kernel_rfl
                    have hoth := oth_B hne
                    clear hxa hxb m0
                    go_wp2_with fail
                    (go_at_call 33; refine (other_any ta tb tl tsp tb _).mono ?_; rintro e_ w5 ⟨rfl, hb⟩)
                    rw [hoth.1, hoth.2]
                    have HB45 := Lib.hid hb
                    have hsz5 := hb.size
                    have fa5 : w5.cell? ⟨w.heap.size + 1, ta.toNat, none⟩ = some (.int .i64 xa) := (hb.cell (p := ⟨_, _, none⟩) fsz).trans fa
                    have fb5 : w5.cell? ⟨w.heap.size + 1, tb.toNat, none⟩ = some (.int .i64 xb) := (hb.cell (p := ⟨_, _, none⟩) fsz).trans fb
                    have t25 : w5.cell? ⟨TBK, 2, none⟩ = some (.int .i64 tl) := (hb.cell (p := ⟨_, _, none⟩) ts).trans t2
                    have z5 : w.heap.size + 1 < w5.heap.size := by omega
                    have zt5 : TBK < w5.heap.size := by omega
                    have h5 : Below w.heap.size w w5 := below_step hBw4 hb
                    have HF5 : Hid (w5.heap[w.heap.size + 1]? = some (.cells (arrI 256 F) 56)) := (hb.block _ fsz).trans HF.out
                    have HO5 : Hid (w5.heap[w.heap.size]? = some (.cells (arrI 256 (fun _ => 0)) 56)) := (hb.block _ (by omega)).trans HO.out
                    have HT5 : Hid (w5.heap[TBK]? = some (.cells #[.int .i64 ta, .int .i64 tb, .int .i64 tl, .int .i64 tsp] 28)) := (hb.block _ ts).trans HTB.out
                    clear hb fa fb t0 t1 t2 t3 tf ff
                    by_cases c0 : 0 ≤ xb
                    · have k0 : decide (0 ≤ xb) = true := decide_eq_true c0
                      by_cases c1 : xa < 0
                      · have k1 : decide (xa < 0) = true := decide_eq_true c1
                        go_wp2_with fail
                        refine wp_region_relw 22 (by kernel_rfl) (by kernel_rfl) (by kernel_rfl) ?_
                        simp only [List.take_succ_cons, List.take_zero, fillL, Act.put, List.setIfInBounds_toArray, List.set_cons_zero, List.set_cons_succ]
                        iterate 22
                          apply rel_is
                          · intro u wx hb hd
                            have hz := hb.size
                            (try simp only [World.size_alloc, World.size_setCell] at hz)
                            have hz0 : w.heap.size + 1 < wx.heap.size := by omega
                            have hz1 : TBK < wx.heap.size := by omega
                            obtain ⟨hc, hf⟩ := bcell hb
                            have HBX := Lib.hid hb
                            clear hb hz
                            simp [depsS, Region.binds, updS, Stay.is, Stay.any] at hd
                            go_simp
                            first | exact ⟨Below.refl _ _, rfl⟩ | rfl
                        intro u w6 hb hE
                        have e0 : u 0 = _ := endS_get hE 0 (by decide)
                        have e1 : u 1 = _ := endS_get hE 1 (by decide)
                        have e2 : u 2 = _ := endS_get hE 2 (by decide)
                        have e3 : u 3 = _ := endS_get hE 3 (by decide)
                        have e4 : u 4 = _ := endS_get hE 4 (by decide)
                        have e5 : u 5 = _ := endS_get hE 5 (by decide)
                        have e6 : u 6 = _ := endS_get hE 6 (by decide)
                        have e7 : u 7 = _ := endS_get hE 7 (by decide)
                        have e8 : u 8 = _ := endS_get hE 8 (by decide)
                        have e9 : u 9 = _ := endS_get hE 9 (by decide)
                        have e10 : u 10 = _ := endS_get hE 10 (by decide)
                        have e11 : u 11 = _ := endS_get hE 11 (by decide)
                        have e12 : u 12 = _ := endS_get hE 12 (by decide)
                        have e13 : u 13 = _ := endS_get hE 13 (by decide)
                        have e14 : u 14 = _ := endS_get hE 14 (by decide)
                        have e15 : u 15 = _ := endS_get hE 15 (by decide)
                        have e16 : u 16 = _ := endS_get hE 16 (by decide)
                        have e17 : u 17 = _ := endS_get hE 17 (by decide)
                        have e18 : u 18 = _ := endS_get hE 18 (by decide)
                        have e19 : u 19 = _ := endS_get hE 19 (by decide)
                        have e20 : u 20 = _ := endS_get hE 20 (by decide)
                        have e21 : u 21 = _ := endS_get hE 21 (by decide)
                        simp only [List.drop_succ_cons, List.drop_zero, List.take_succ_cons, List.take_zero, fillL, Act.put, List.setIfInBounds_toArray, List.set_cons_zero, List.set_cons_succ, e0, e1, e2, e3, e4, e5, e6, e7, e8, e9, e10, e11, e12, e13, e14, e15, e16, e17, e18, e19, e20, e21]
                        clear e0 e1 e2 e3 e4 e5 e6 e7 e8 e9 e10 e11 e12 e13 e14 e15 e16 e17 e18 e19 e20 e21 hE
                        have HBw6 := Lib.hid (below_step (w := w5) (by first | assumption | go_grown) hb)
                        have HBXw6 := Lib.hid hb
                        have hzw6 := hb.size
                        (try simp only [World.size_alloc, World.size_setCell] at hzw6)
                        have hzw60 : w.heap.size + 1 < w6.heap.size := by omega
                        have hzw61 : TBK < w6.heap.size := by omega
                        obtain ⟨hcw6, hfw6⟩ := bcell hb
                        clear hb hzw6
                        have hBX := HBXw6.out
                        have HF6 : Hid (w6.heap[w.heap.size + 1]? = some (.cells (arrI 256 F) 56)) := (hBX.block _ z5).trans HF5.out
                        have HO6 : Hid (w6.heap[w.heap.size]? = some (.cells (arrI 256 (fun _ => 0)) 56)) := (hBX.block _ (by omega)).trans HO5.out
                        have HT6 : Hid (w6.heap[TBK]? = some (.cells #[.int .i64 ta, .int .i64 tb, .int .i64 tl, .int .i64 tsp] 28)) := (hBX.block _ zt5).trans HT5.out
                        have hB6 : Below w.heap.size w w6 := below_step h5 hBX
                        have HS6 : Hid (Swp n T U to F0 j 2 (updN F ta.toNat (xb + tl)) true) := by
                          have h := HSW.out.turn HTK.out 2 (v := ta) (w := tb) hjn huj (by have e3 := HTJ.out; rw [e3]; exact .inl ⟨rfl, rfl⟩) (by have e1 := HXA.out; have e2 := HXB.out; have e3 := HTJ.out; rw [e3]; dsimp only; unfold Imp; rw [e1, e2]; omega)
                          have e1 := HXB.out
                          have e3 := HTJ.out
                          rw [e3] at h
                          dsimp only at h
                          rw [e1] at h
                          exact h
                        have hsz6 : w.heap.size + 1 < w6.heap.size := by have := hBX.size; omega
                        have hszt6 : TBK < w6.heap.size := by have := hBX.size; omega
                        have fa6 : w6.cell? ⟨w.heap.size + 1, ta.toNat, none⟩ = some (.int .i64 xa) := (hBX.cell (p := ⟨_, _, none⟩) z5).trans fa5
                        have fb6 : w6.cell? ⟨w.heap.size + 1, tb.toNat, none⟩ = some (.int .i64 xb) := (hBX.cell (p := ⟨_, _, none⟩) z5).trans fb5
                        have t26 : w6.cell? ⟨TBK, 2, none⟩ = some (.int .i64 tl) := (hBX.cell (p := ⟨_, _, none⟩) zt5).trans t25
                        have ff6 := arr_frozen HF6.out
                        clear hBX hcw6 hfw6 fa5 fb5 t25
                        have hpc := past_cell
                        have hpf := Past.frozen (W := w6)
                        go_wp2_with fail
                        refine wp_region_past_tail 8 (by kernel_rfl) (by kernel_rfl) ?_
                        simp only [List.take_succ_cons, List.take_zero, List.drop_succ_cons, List.drop_zero]
                        iterate 8 go_big_quiet_step (fail)
                        refine wpQuiet_nil ?_
                        intro w7 hw'
                        have hb1 := past_out hw'
                        clear hw'
                        have hBX7 := hb1
                        have z6' : TBK < w6.heap.size := hszt6
                        have fb7 : w7.cell? ⟨w.heap.size + 1, ta.toNat, none⟩ = some (.int .i64 xa) := (hBX7.cell (p := ⟨_, _, none⟩) hsz6).trans fa6
                        have ff7 : w7.frozen? ⟨w.heap.size + 1, ta.toNat, none⟩ = false := (hBX7.frozen (p := ⟨_, _, none⟩) hsz6).trans (ff6 _)
                        have HF7 : Hid (w7.heap[w.heap.size + 1]? = some (.cells (arrI 256 F) 56)) := (hBX7.block _ hsz6).trans HF6.out
                        have HO7 : Hid (w7.heap[w.heap.size]? = some (.cells (arrI 256 (fun _ => 0)) 56)) := (hBX7.block _ (by omega)).trans HO6.out
                        have HT7 : Hid (w7.heap[TBK]? = some (.cells #[.int .i64 ta, .int .i64 tb, .int .i64 tl, .int .i64 tsp] 28)) := (hBX7.block _ z6').trans HT6.out
                        have hB7 : Below w.heap.size w w7 := below_step hB6 hBX7
                        have hs7 := hBX7.size
                        have HF8 : Hid ((w7.setCell ⟨w.heap.size + 1, ta.toNat, none⟩ (.int .i64 (xb + tl))).heap[w.heap.size + 1]? = some (.cells (arrI 256 (updN F ta.toNat (xb + tl))) 56)) := setArr HF7.out
                        have HO8 : Hid ((w7.setCell ⟨w.heap.size + 1, ta.toNat, none⟩ (.int .i64 (xb + tl))).heap[w.heap.size]? = some (.cells (arrI 256 (fun _ => 0)) 56)) := (heap_setCell_other _ _ _ _ (by show w.heap.size ≠ w.heap.size + 1; omega)).trans HO7.out
                        have HT8 : Hid ((w7.setCell ⟨w.heap.size + 1, ta.toNat, none⟩ (.int .i64 (xb + tl))).heap[TBK]? = some (.cells #[.int .i64 ta, .int .i64 tb, .int .i64 tl, .int .i64 tsp] 28)) := (heap_setCell_other _ _ _ _ (by show TBK ≠ w.heap.size + 1; omega)).trans HT7.out
                        have z7 : TBK < w7.heap.size := by omega
                        clear hb1 hBX7 hs7 fa6 fb6 t26 ff6 hpc hpf
                        go_wp2
                        go_roundw
                        case rel => exact ⟨2, _, true, by omega, rfl, rfl, HS6, HF8, HO8, HT8, by simp <;> omega, by go_grown⟩
                        case measure => simp [intOf] <;> omega
                      · have k1 : decide (xa < 0) = false := decide_eq_false c1
                        by_cases c2 : xb + tl < xa
                        · have k2 : decide (xb + tl < xa) = true := decide_eq_true c2
                          go_wp2_with fail
                          refine wp_region_relw 22 (by kernel_rfl) (by kernel_rfl) (by kernel_rfl) ?_
                          simp only [List.take_succ_cons, List.take_zero, fillL, Act.put, List.setIfInBounds_toArray, List.set_cons_zero, List.set_cons_succ]
                          iterate 22
                            apply rel_is
                            · intro u wx hb hd
                              have hz := hb.size
                              (try simp only [World.size_alloc, World.size_setCell] at hz)
                              have hz0 : w.heap.size + 1 < wx.heap.size := by omega
                              have hz1 : TBK < wx.heap.size := by omega
                              obtain ⟨hc, hf⟩ := bcell hb
                              have HBX := Lib.hid hb
                              clear hb hz
                              simp [depsS, Region.binds, updS, Stay.is, Stay.any] at hd
                              go_simp
                              first | exact ⟨Below.refl _ _, rfl⟩ | rfl
                          intro u w6 hb hE
                          have e0 : u 0 = _ := endS_get hE 0 (by decide)
                          have e1 : u 1 = _ := endS_get hE 1 (by decide)
                          have e2 : u 2 = _ := endS_get hE 2 (by decide)
                          have e3 : u 3 = _ := endS_get hE 3 (by decide)
                          have e4 : u 4 = _ := endS_get hE 4 (by decide)
                          have e5 : u 5 = _ := endS_get hE 5 (by decide)
                          have e6 : u 6 = _ := endS_get hE 6 (by decide)
                          have e7 : u 7 = _ := endS_get hE 7 (by decide)
                          have e8 : u 8 = _ := endS_get hE 8 (by decide)
                          have e9 : u 9 = _ := endS_get hE 9 (by decide)
                          have e10 : u 10 = _ := endS_get hE 10 (by decide)
                          have e11 : u 11 = _ := endS_get hE 11 (by decide)
                          have e12 : u 12 = _ := endS_get hE 12 (by decide)
                          have e13 : u 13 = _ := endS_get hE 13 (by decide)
                          have e14 : u 14 = _ := endS_get hE 14 (by decide)
                          have e15 : u 15 = _ := endS_get hE 15 (by decide)
                          have e16 : u 16 = _ := endS_get hE 16 (by decide)
                          have e17 : u 17 = _ := endS_get hE 17 (by decide)
                          have e18 : u 18 = _ := endS_get hE 18 (by decide)
                          have e19 : u 19 = _ := endS_get hE 19 (by decide)
                          have e20 : u 20 = _ := endS_get hE 20 (by decide)
                          have e21 : u 21 = _ := endS_get hE 21 (by decide)
                          simp only [List.drop_succ_cons, List.drop_zero, List.take_succ_cons, List.take_zero, fillL, Act.put, List.setIfInBounds_toArray, List.set_cons_zero, List.set_cons_succ, e0, e1, e2, e3, e4, e5, e6, e7, e8, e9, e10, e11, e12, e13, e14, e15, e16, e17, e18, e19, e20, e21]
                          clear e0 e1 e2 e3 e4 e5 e6 e7 e8 e9 e10 e11 e12 e13 e14 e15 e16 e17 e18 e19 e20 e21 hE
                          have HBw6 := Lib.hid (below_step (w := w5) (by first | assumption | go_grown) hb)
                          have HBXw6 := Lib.hid hb
                          have hzw6 := hb.size
                          (try simp only [World.size_alloc, World.size_setCell] at hzw6)
                          have hzw60 : w.heap.size + 1 < w6.heap.size := by omega
                          have hzw61 : TBK < w6.heap.size := by omega
                          obtain ⟨hcw6, hfw6⟩ := bcell hb
                          clear hb hzw6
                          have hBX := HBXw6.out
                          have HF6 : Hid (w6.heap[w.heap.size + 1]? = some (.cells (arrI 256 F) 56)) := (hBX.block _ z5).trans HF5.out
                          have HO6 : Hid (w6.heap[w.heap.size]? = some (.cells (arrI 256 (fun _ => 0)) 56)) := (hBX.block _ (by omega)).trans HO5.out
                          have HT6 : Hid (w6.heap[TBK]? = some (.cells #[.int .i64 ta, .int .i64 tb, .int .i64 tl, .int .i64 tsp] 28)) := (hBX.block _ zt5).trans HT5.out
                          have hB6 : Below w.heap.size w w6 := below_step h5 hBX
                          have HS6 : Hid (Swp n T U to F0 j 2 (updN F ta.toNat (xb + tl)) true) := by
                            have h := HSW.out.turn HTK.out 2 (v := ta) (w := tb) hjn huj (by have e3 := HTJ.out; rw [e3]; exact .inl ⟨rfl, rfl⟩) (by have e1 := HXA.out; have e2 := HXB.out; have e3 := HTJ.out; rw [e3]; dsimp only; unfold Imp; rw [e1, e2]; omega)
                            have e1 := HXB.out
                            have e3 := HTJ.out
                            rw [e3] at h
                            dsimp only at h
                            rw [e1] at h
                            exact h
                          have hsz6 : w.heap.size + 1 < w6.heap.size := by have := hBX.size; omega
                          have hszt6 : TBK < w6.heap.size := by have := hBX.size; omega
                          have fa6 : w6.cell? ⟨w.heap.size + 1, ta.toNat, none⟩ = some (.int .i64 xa) := (hBX.cell (p := ⟨_, _, none⟩) z5).trans fa5
                          have fb6 : w6.cell? ⟨w.heap.size + 1, tb.toNat, none⟩ = some (.int .i64 xb) := (hBX.cell (p := ⟨_, _, none⟩) z5).trans fb5
                          have t26 : w6.cell? ⟨TBK, 2, none⟩ = some (.int .i64 tl) := (hBX.cell (p := ⟨_, _, none⟩) zt5).trans t25
                          have ff6 := arr_frozen HF6.out
                          clear hBX hcw6 hfw6 fa5 fb5 t25
                          have hpc := past_cell
                          have hpf := Past.frozen (W := w6)
                          go_wp2_with fail
                          refine wp_region_past_tail 8 (by kernel_rfl) (by kernel_rfl) ?_
                          simp only [List.take_succ_cons, List.take_zero, List.drop_succ_cons, List.drop_zero]
                          iterate 8 go_big_quiet_step (fail)
                          refine wpQuiet_nil ?_
                          intro w7 hw'
                          have hb1 := past_out hw'
                          clear hw'
                          have hBX7 := hb1
                          have z6' : TBK < w6.heap.size := hszt6
                          have fb7 : w7.cell? ⟨w.heap.size + 1, ta.toNat, none⟩ = some (.int .i64 xa) := (hBX7.cell (p := ⟨_, _, none⟩) hsz6).trans fa6
                          have ff7 : w7.frozen? ⟨w.heap.size + 1, ta.toNat, none⟩ = false := (hBX7.frozen (p := ⟨_, _, none⟩) hsz6).trans (ff6 _)
                          have HF7 : Hid (w7.heap[w.heap.size + 1]? = some (.cells (arrI 256 F) 56)) := (hBX7.block _ hsz6).trans HF6.out
                          have HO7 : Hid (w7.heap[w.heap.size]? = some (.cells (arrI 256 (fun _ => 0)) 56)) := (hBX7.block _ (by omega)).trans HO6.out
                          have HT7 : Hid (w7.heap[TBK]? = some (.cells #[.int .i64 ta, .int .i64 tb, .int .i64 tl, .int .i64 tsp] 28)) := (hBX7.block _ z6').trans HT6.out
                          have hB7 : Below w.heap.size w w7 := below_step hB6 hBX7
                          have hs7 := hBX7.size
                          have HF8 : Hid ((w7.setCell ⟨w.heap.size + 1, ta.toNat, none⟩ (.int .i64 (xb + tl))).heap[w.heap.size + 1]? = some (.cells (arrI 256 (updN F ta.toNat (xb + tl))) 56)) := setArr HF7.out
                          have HO8 : Hid ((w7.setCell ⟨w.heap.size + 1, ta.toNat, none⟩ (.int .i64 (xb + tl))).heap[w.heap.size]? = some (.cells (arrI 256 (fun _ => 0)) 56)) := (heap_setCell_other _ _ _ _ (by show w.heap.size ≠ w.heap.size + 1; omega)).trans HO7.out
                          have HT8 : Hid ((w7.setCell ⟨w.heap.size + 1, ta.toNat, none⟩ (.int .i64 (xb + tl))).heap[TBK]? = some (.cells #[.int .i64 ta, .int .i64 tb, .int .i64 tl, .int .i64 tsp] 28)) := (heap_setCell_other _ _ _ _ (by show TBK ≠ w.heap.size + 1; omega)).trans HT7.out
                          have z7 : TBK < w7.heap.size := by omega
                          clear hb1 hBX7 hs7 fa6 fb6 t26 ff6 hpc hpf
                          go_wp2
                          go_roundw
                          case rel => exact ⟨2, _, true, by omega, rfl, rfl, HS6, HF8, HO8, HT8, by simp <;> omega, by go_grown⟩
                          case measure => simp [intOf] <;> omega
                        · have k2 : decide (xb + tl < xa) = false := decide_eq_false c2
                          go_wp2_with fail
                          refine wp_region_relw 22 (by kernel_rfl) (by kernel_rfl) (by kernel_rfl) ?_
                          simp only [List.take_succ_cons, List.take_zero, fillL, Act.put, List.setIfInBounds_toArray, List.set_cons_zero, List.set_cons_succ]
                          iterate 22
                            apply rel_is
                            · intro u wx hb hd
                              have hz := hb.size
                              (try simp only [World.size_alloc, World.size_setCell] at hz)
                              have hz0 : w.heap.size + 1 < wx.heap.size := by omega
                              have hz1 : TBK < wx.heap.size := by omega
                              obtain ⟨hc, hf⟩ := bcell hb
                              have HBX := Lib.hid hb
                              clear hb hz
                              simp [depsS, Region.binds, updS, Stay.is, Stay.any] at hd
                              go_simp
                              first | exact ⟨Below.refl _ _, rfl⟩ | rfl
                          intro u w6 hb hE
                          have e0 : u 0 = _ := endS_get hE 0 (by decide)
                          have e1 : u 1 = _ := endS_get hE 1 (by decide)
                          have e2 : u 2 = _ := endS_get hE 2 (by decide)
                          have e3 : u 3 = _ := endS_get hE 3 (by decide)
                          have e4 : u 4 = _ := endS_get hE 4 (by decide)
                          have e5 : u 5 = _ := endS_get hE 5 (by decide)
                          have e6 : u 6 = _ := endS_get hE 6 (by decide)
                          have e7 : u 7 = _ := endS_get hE 7 (by decide)
                          have e8 : u 8 = _ := endS_get hE 8 (by decide)
                          have e9 : u 9 = _ := endS_get hE 9 (by decide)
                          have e10 : u 10 = _ := endS_get hE 10 (by decide)
                          have e11 : u 11 = _ := endS_get hE 11 (by decide)
                          have e12 : u 12 = _ := endS_get hE 12 (by decide)
                          have e13 : u 13 = _ := endS_get hE 13 (by decide)
                          have e14 : u 14 = _ := endS_get hE 14 (by decide)
                          have e15 : u 15 = _ := endS_get hE 15 (by decide)
                          have e16 : u 16 = _ := endS_get hE 16 (by decide)
                          have e17 : u 17 = _ := endS_get hE 17 (by decide)
                          have e18 : u 18 = _ := endS_get hE 18 (by decide)
                          have e19 : u 19 = _ := endS_get hE 19 (by decide)
                          have e20 : u 20 = _ := endS_get hE 20 (by decide)
                          have e21 : u 21 = _ := endS_get hE 21 (by decide)
                          simp only [List.drop_succ_cons, List.drop_zero, List.take_succ_cons, List.take_zero, fillL, Act.put, List.setIfInBounds_toArray, List.set_cons_zero, List.set_cons_succ, e0, e1, e2, e3, e4, e5, e6, e7, e8, e9, e10, e11, e12, e13, e14, e15, e16, e17, e18, e19, e20, e21]
                          clear e0 e1 e2 e3 e4 e5 e6 e7 e8 e9 e10 e11 e12 e13 e14 e15 e16 e17 e18 e19 e20 e21 hE
                          have HBw6 := Lib.hid (below_step (w := w5) (by first | assumption | go_grown) hb)
                          have HBXw6 := Lib.hid hb
                          have hzw6 := hb.size
                          (try simp only [World.size_alloc, World.size_setCell] at hzw6)
                          have hzw60 : w.heap.size + 1 < w6.heap.size := by omega
                          have hzw61 : TBK < w6.heap.size := by omega
                          obtain ⟨hcw6, hfw6⟩ := bcell hb
                          clear hb hzw6
                          have hBX := HBXw6.out
                          have HF6 : Hid (w6.heap[w.heap.size + 1]? = some (.cells (arrI 256 F) 56)) := (hBX.block _ z5).trans HF5.out
                          have HO6 : Hid (w6.heap[w.heap.size]? = some (.cells (arrI 256 (fun _ => 0)) 56)) := (hBX.block _ (by omega)).trans HO5.out
                          have HT6 : Hid (w6.heap[TBK]? = some (.cells #[.int .i64 ta, .int .i64 tb, .int .i64 tl, .int .i64 tsp] 28)) := (hBX.block _ zt5).trans HT5.out
                          have hB6 : Below w.heap.size w w6 := below_step h5 hBX
                          have HS6 : Hid (Swp n T U to F0 j 2 F bb) := HSW.out.stay1 (by have e1 := HXA.out; have e2 := HXB.out; have e3 := HTJ.out; rw [e3]; dsimp only; unfold Imp; rw [e1, e2]; omega)
                          have hsz6 : w.heap.size + 1 < w6.heap.size := by have := hBX.size; omega
                          have hszt6 : TBK < w6.heap.size := by have := hBX.size; omega
                          clear hBX hcw6 hfw6
                          go_wp2
                          go_roundw
                          case rel => exact ⟨2, F, bb, by omega, rfl, rfl, HS6, HF6, HO6, HT6, hszt6, hB6⟩
                          case measure => simp [intOf] <;> omega
                    · have k0 : decide (0 ≤ xb) = false := decide_eq_false c0
                      go_wp2_with fail
                      refine wp_region_relw 22 (by kernel_rfl) (by kernel_rfl) (by kernel_rfl) ?_
                      simp only [List.take_succ_cons, List.take_zero, fillL, Act.put, List.setIfInBounds_toArray, List.set_cons_zero, List.set_cons_succ]
                      iterate 22
                        apply rel_is
                        · intro u wx hb hd
                          have hz := hb.size
                          (try simp only [World.size_alloc, World.size_setCell] at hz)
                          have hz0 : w.heap.size + 1 < wx.heap.size := by omega
                          have hz1 : TBK < wx.heap.size := by omega
                          obtain ⟨hc, hf⟩ := bcell hb
                          have HBX := Lib.hid hb
                          clear hb hz
                          simp [depsS, Region.binds, updS, Stay.is, Stay.any] at hd
                          go_simp
                          first | exact ⟨Below.refl _ _, rfl⟩ | rfl
                      intro u w6 hb hE
                      have e0 : u 0 = _ := endS_get hE 0 (by decide)
                      have e1 : u 1 = _ := endS_get hE 1 (by decide)
                      have e2 : u 2 = _ := endS_get hE 2 (by decide)
                      have e3 : u 3 = _ := endS_get hE 3 (by decide)
                      have e4 : u 4 = _ := endS_get hE 4 (by decide)
                      have e5 : u 5 = _ := endS_get hE 5 (by decide)
                      have e6 : u 6 = _ := endS_get hE 6 (by decide)
                      have e7 : u 7 = _ := endS_get hE 7 (by decide)
                      have e8 : u 8 = _ := endS_get hE 8 (by decide)
                      have e9 : u 9 = _ := endS_get hE 9 (by decide)
                      have e10 : u 10 = _ := endS_get hE 10 (by decide)
                      have e11 : u 11 = _ := endS_get hE 11 (by decide)
                      have e12 : u 12 = _ := endS_get hE 12 (by decide)
                      have e13 : u 13 = _ := endS_get hE 13 (by decide)
                      have e14 : u 14 = _ := endS_get hE 14 (by decide)
                      have e15 : u 15 = _ := endS_get hE 15 (by decide)
                      have e16 : u 16 = _ := endS_get hE 16 (by decide)
                      have e17 : u 17 = _ := endS_get hE 17 (by decide)
                      have e18 : u 18 = _ := endS_get hE 18 (by decide)
                      have e19 : u 19 = _ := endS_get hE 19 (by decide)
                      have e20 : u 20 = _ := endS_get hE 20 (by decide)
                      have e21 : u 21 = _ := endS_get hE 21 (by decide)
                      simp only [List.drop_succ_cons, List.drop_zero, List.take_succ_cons, List.take_zero, fillL, Act.put, List.setIfInBounds_toArray, List.set_cons_zero, List.set_cons_succ, e0, e1, e2, e3, e4, e5, e6, e7, e8, e9, e10, e11, e12, e13, e14, e15, e16, e17, e18, e19, e20, e21]
                      clear e0 e1 e2 e3 e4 e5 e6 e7 e8 e9 e10 e11 e12 e13 e14 e15 e16 e17 e18 e19 e20 e21 hE
                      have HBw6 := Lib.hid (below_step (w := w5) (by first | assumption | go_grown) hb)
                      have HBXw6 := Lib.hid hb
                      have hzw6 := hb.size
                      (try simp only [World.size_alloc, World.size_setCell] at hzw6)
                      have hzw60 : w.heap.size + 1 < w6.heap.size := by omega
                      have hzw61 : TBK < w6.heap.size := by omega
                      obtain ⟨hcw6, hfw6⟩ := bcell hb
                      clear hb hzw6
                      have hBX := HBXw6.out
                      have HF6 : Hid (w6.heap[w.heap.size + 1]? = some (.cells (arrI 256 F) 56)) := (hBX.block _ z5).trans HF5.out
                      have HO6 : Hid (w6.heap[w.heap.size]? = some (.cells (arrI 256 (fun _ => 0)) 56)) := (hBX.block _ (by omega)).trans HO5.out
                      have HT6 : Hid (w6.heap[TBK]? = some (.cells #[.int .i64 ta, .int .i64 tb, .int .i64 tl, .int .i64 tsp] 28)) := (hBX.block _ zt5).trans HT5.out
                      have hB6 : Below w.heap.size w w6 := below_step h5 hBX
                      have HS6 : Hid (Swp n T U to F0 j 2 F bb) := HSW.out.stay1 (by have e1 := HXA.out; have e2 := HXB.out; have e3 := HTJ.out; rw [e3]; dsimp only; unfold Imp; rw [e1, e2]; omega)
                      have hsz6 : w.heap.size + 1 < w6.heap.size := by have := hBX.size; omega
                      have hszt6 : TBK < w6.heap.size := by have := hBX.size; omega
                      clear hBX hcw6 hfw6
                      go_wp2
                      go_roundw
                      case rel => exact ⟨2, F, bb, by omega, rfl, rfl, HS6, HF6, HO6, HT6, hszt6, hB6⟩
                      case measure => simp [intOf] <;> omega
                  · have HS2 : Hid (Swp n T U to F0 (j + 1) 0 F bb) := HSW.out.next
                    have hz4 := block_lt HF.out
                    go_wp2
                    go_roundw
                    case rel => exact ⟨j + 1, F, bb, by omega, by go_num, rfl, HS2, HF, HO, hBw4⟩
                    case measure => simp [intOf]; omega
            · obtain rfl : j = n := by omega
              have HSW2 := HSW
              go_wp2
              go_roundw
              case rel =>
                refine ⟨F, bb, rfl, HSW.out.inv, fun hb => ?_, HF, HO, hB3⟩
                exact (HSW.out.same hb).2.1
              case measure =>
                rw [leftW_arr HF.out, leftW_arr HFX.out]
                cases bb
                · have := HSW.out.le
                  show 2 * leftN F + 0 < 2 * leftN F0 + 1
                  omega
                · have := HSW.out.lt rfl
                  show 2 * leftN F + 1 < 2 * leftN F0 + 1
                  omega
end Go.Proofs.YtpkgadjglidnaaaDoor
