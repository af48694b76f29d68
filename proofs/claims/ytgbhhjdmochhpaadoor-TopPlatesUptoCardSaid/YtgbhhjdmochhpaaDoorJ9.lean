/-
  Lemmas of this claim, joined (PlX, PlZ, PmC, Bulk, PmD). Conditions: as stated. By an AI agent.
-/
import Derived.Test.YtgbhhjdmochhpaaDoorJ8
import Derived.Test.YtgbhhjdmochhpaaDoorJ6
import Derived.Test.YtgbhhjdmochhpaaDoorJ7
import Derived.Test.YtgbhhjdmochhpaaDoorJ1
import Derived.Test.YtgbhhjdmochhpaaDoorJ2
import Derived.Test.YtgbhhjdmochhpaaDoorRows
import Derived.Deep.Slices
import Derived.Test.YtgbhhjdmochhpaaDoorCards
import Derived.Test.YtgbhhjdmochhpaaDoorTie
namespace Go.Proofs.YtgbhhjdmochhpaaDoor
open Go Go.ChangeShapes Go.WideShapes Go.RowKit Go.ChangeAt
set_option linter.unusedVariables false
set_option linter.unusedSimpArgs false

theorem moved_any (fl : Bool) (v : Value) (n : Nat) (P : Nat → Pt) (b : Nat) (pt : ByteArray) (tx ty : Int) (k : Nat) (w : World) (h : PtsAt w v n P) (hb : b < w.heap.size)
    (HS : Hid (w.cell? ⟨b, 0, none⟩ = some (.string pt) ∧ w.cell? ⟨b, 1, none⟩ = some (.int .i64 tx) ∧ w.cell? ⟨b, 2, none⟩ = some (.int .i64 ty) ∧ w.cell? ⟨b, 3, none⟩ = some (.int .i64 (k : Int)) ∧ w.cell? ⟨b, 4, none⟩ = some (.bool fl)))
    (hk : k ≤ 3) (hn : 0 < n) (hn32 : n ≤ 32) (ht : (0 ≤ tx ∧ tx ≤ 16384) ∧ 0 ≤ ty ∧ ty ≤ 16384) (hP : Hid (∀ i, i < n → (-16384 ≤ (P i).1 ∧ (P i).1 ≤ 16384) ∧ -16384 ≤ (P i).2 ∧ (P i).2 ≤ 16384)) :
    Calls Tryd.prog 17 #[v, .pointer (some ⟨b, 0, none⟩)] w fun e w' => ∃ (o : Option Addr) (c : Nat), e = .returned (.slice o n c) ∧ w'.ownsRow w.heap.size 37 2 (.slice o n c) n (flP (spotF fl (n) (fun a => spotT fl k (tx, ty) (P a))) n) ∧ Below w.heap.size w w' := by
  cases fl with
  | true => exact moved_true v n P b pt tx ty k w h hb HS hk hn hn32 ht hP
  | false => exact moved_false v n P b pt tx ty k w h hb HS hk hn hn32 ht hP
theorem listOf_ext {f g : Nat → Value} {n : Nat} {x : Value} (h : ∀ i, i < n → f i = g i) (hx : g n = x) : listOf f n ++ [x] = listOf g (n + 1) := by
  rw [← listOf_snoc g n, hx]
  congr 1
  exact List.map_congr_left fun i hi => h i (List.mem_range.1 hi)
theorem spot_cells {w : World} {b : Nat} {pt : ByteArray} {tx ty k : Int} {fl : Bool} {t : TypeId} (h : w.heap[b]? = some (.cells #[.string pt, .int .i64 tx, .int .i64 ty, .int .i64 k, .bool fl] t)) :
    w.cell? ⟨b, 0, none⟩ = some (.string pt) ∧ w.cell? ⟨b, 1, none⟩ = some (.int .i64 tx) ∧ w.cell? ⟨b, 2, none⟩ = some (.int .i64 ty) ∧ w.cell? ⟨b, 3, none⟩ = some (.int .i64 k) ∧ w.cell? ⟨b, 4, none⟩ = some (.bool fl) :=
  ⟨cell_of_row w b 0 _ t (0, 0) h, cell_of_row w b 1 _ t (0, 0) h, cell_of_row w b 2 _ t (0, 0) h, cell_of_row w b 3 _ t (0, 0) h, cell_of_row w b 4 _ t (0, 0) h⟩

set_option maxHeartbeats 4000000 in
set_option maxRecDepth 20000 in
theorem move_ok (v u : Value) (no m : Nat) (P : Nat → Pt) (oh : Nat → Option Addr) (ch hn : Nat → Nat) (H : Nat → Nat → Pt) (pt : ByteArray) (tx ty : Int) (k : Nat) (fl : Bool) (w : World) (h : PtsAt w v no P) (hh : HolesAt w u m oh ch hn H) (hr : Hid (Reg no P m hn H))
    (hk : k ≤ 3) (ht : (0 ≤ tx ∧ tx ≤ 16384) ∧ 0 ≤ ty ∧ ty ≤ 16384) (hP : Hid (∀ i, i < no → (-16384 ≤ (P i).1 ∧ (P i).1 ≤ 16384) ∧ -16384 ≤ (P i).2 ∧ (P i).2 ≤ 16384)) :
    Calls Tryd.prog 5 #[.agg #[v, u], .agg #[.string pt, .int .i64 tx, .int .i64 ty, .int .i64 (k : Int), .bool fl]] w fun e w' => ∃ (o1 : Option Addr) (c1 : Nat) (o2 : Option Addr) (c2 : Nat) (oh' : Nat → Option Addr) (ch' : Nat → Nat), e = .returned (.agg #[.slice o1 no c1, .slice o2 m c2]) ∧ PtsAt w' (.slice o1 no c1) no (spotF fl (no) (fun a => spotT fl k (tx, ty) (P a))) ∧
      HolesAt w' (.slice o2 m c2) m oh' ch' hn (fun i => (spotF fl (hn i) (fun a => spotT fl k (tx, ty) (H i a)))) ∧ Below w.heap.size w w' := by
  have eg : ∀ args w, (callFunc 17 args).run Tryd.prog w = .ok (.enter 17 args) w := enters_of Tryd.func17 (by kernel_rfl) rfl
  have hm8 := hr.out.m8
  have HH := Lib.hid hh
  have HHB := Lib.hid (hr.out.hole_bd hP.out)
  have HF : Hid (∀ W, Calls Tryd.prog 14 #[.agg #[.int .i64 tx, .int .i64 ty]] W (fun e w' => e = .returned (.bool false) ∧ Below W.heap.size W w')) := fun W => by
    have t := farG_any tx ty W
    rw [nearB_iff.2 (show _ from ⟨by omega, by omega, by omega, by omega⟩)] at t
    exact t
  have HCN : Hid (∀ i, i < m + 1 → Hid (Pol 32768 (consF no hn i) (consF P H i))) := fun i hi => by
    cases i with
    | zero => exact hr.out.po
    | succ k => exact hr.out.hp k (by omega)
  have HCF : Hid (∀ W v' i, i < m + 1 → PtsAt W v' (consF no hn i) (consF P H i) → Calls Tryd.prog 16 #[v', .func (.func 14) #[] #[]] W (fun e w' => e = .returned (.bool false) ∧ Below W.heap.size W w')) := fun W v' i hi a => by
    have t := containsFarG v' _ _ W a
    rw [allTo_iff.2 (fun q hq => nearB_iff.2 (by have := (HCN.out i hi).out.nr q hq; omega))] at t
    exact t
  have c1' : decide ((k : Int) < 0) = false := decide_eq_false (by omega)
  have c2' : decide ((3 : Int) < (k : Int)) = false := decide_eq_false (by omega)
  obtain ⟨oo, co, rfl, hno, hco, -⟩ := h.form
  obtain ⟨oq, cq, rfl, hm, hcq, hel⟩ := hh.form
  have HEL := Lib.hid hel
  have H0 := Lib.hid h
  have HHO := Lib.hid hh.2
  clear h hel hh
  go_enter Tryd.func5, Tryd.ntmps5
  go_wp2_with fail
  obtain ⟨w0, hw0⟩ : ∃ X, (((w.alloc (.cells #[.slice oo no co, .slice oq m cq] 25)).alloc (.cells #[.string pt, .int .i64 tx, .int .i64 ty, .int .i64 (k : Int), .bool fl] 39)).alloc (.cells #[.slice none 0 0, .slice none 0 0] 25)) = X := ⟨_, rfl⟩
  have HX0 : Hid (w0.heap[w.heap.size]? = some (.cells #[.slice oo no co, .slice oq m cq] 25)) := by
    show _ = _
    rw [← hw0]
    exact (heapA_old _ _ _ (by simp; omega)).trans ((heapA_old _ _ _ (by simp)).trans (heapA_at _ _ _ rfl))
  have HY0 : Hid (w0.heap[(w.heap.size + 1)]? = some (.cells #[.string pt, .int .i64 tx, .int .i64 ty, .int .i64 (k : Int), .bool fl] 39)) := by
    show _ = _
    rw [← hw0]
    exact (heapA_old _ _ _ (by simp)).trans (heapA_at _ _ _ (by simp))
  have HZ0 : Hid (w0.heap[(w.heap.size + 1 + 1)]? = some (.cells #[.slice none 0 0, .slice none 0 0] 25)) := by
    show _ = _
    rw [← hw0]
    exact heapA_at _ _ _ (by simp)
  have HB0 : Hid (Below w.heap.size w w0) := by
    show Below _ _ _
    rw [← hw0]
    exact (((Below.refl w.heap.size w).alloc (Nat.le_refl _) _).alloc (by simp) _).alloc (by simp; omega) _
  have zw0 : w.heap.size + 1 + 1 < w0.heap.size := by rw [← hw0]; simp
  rw [hw0]
  clear hw0
  obtain ⟨x0, x1, xf, xz⟩ := cells_at2 HX0.out
  obtain ⟨y0, y1, y2, y3, y4⟩ := spot_cells HY0.out
  obtain ⟨z0, z1, zf, zz⟩ := cells_at2 HZ0.out
  have yz : (w.heap.size + 1) < w0.heap.size := by omega
  (go_at_call 14; refine (HF.out _).mono ?_; rintro e_ w1 ⟨rfl, hb1⟩)
  clear x0 x1 xf xz y0 y1 y2 y3 y4 z0 z1 zf zz yz
  have HB1 := Lib.hid (below_step HB0.out hb1)
  have HX1 : Hid (w1.heap[w.heap.size]? = some (.cells #[.slice oo no co, .slice oq m cq] 25)) := (hb1.block w.heap.size (by omega)).trans HX0.out
  have HY1 : Hid (w1.heap[(w.heap.size + 1)]? = some (.cells #[.string pt, .int .i64 tx, .int .i64 ty, .int .i64 (k : Int), .bool fl] 39)) := (hb1.block (w.heap.size + 1) (by omega)).trans HY0.out
  have HZ1 : Hid (w1.heap[(w.heap.size + 1 + 1)]? = some (.cells #[.slice none 0 0, .slice none 0 0] 25)) := (hb1.block (w.heap.size + 1 + 1) (by omega)).trans HZ0.out
  have zw1 : w.heap.size + 1 + 1 < w1.heap.size := by have := hb1.size; omega
  clear hb1
  obtain ⟨x0, x1, xf, xz⟩ := cells_at2 HX1.out
  obtain ⟨y0, y1, y2, y3, y4⟩ := spot_cells HY1.out
  obtain ⟨z0, z1, zf, zz⟩ := cells_at2 HZ1.out
  have yz : (w.heap.size + 1) < w1.heap.size := by omega
  go_wp2_with fail
  (go_at_call 15; refine (contours_any _ _ no m P oh ch hn H _ (H0.out.below HB1.out) (HH.out.below HB1.out) hr.out.m8).mono ?_; rintro e_ w2 ⟨o4, c4, oh', ch', rfl, hO, hb2⟩)
  clear x0 x1 xf xz y0 y1 y2 y3 y4 z0 z1 zf zz yz
  have HB2 := Lib.hid (below_step HB1.out hb2)
  have HX2 : Hid (w2.heap[w.heap.size]? = some (.cells #[.slice oo no co, .slice oq m cq] 25)) := (hb2.block w.heap.size (by omega)).trans HX1.out
  have HY2 : Hid (w2.heap[(w.heap.size + 1)]? = some (.cells #[.string pt, .int .i64 tx, .int .i64 ty, .int .i64 (k : Int), .bool fl] 39)) := (hb2.block (w.heap.size + 1) (by omega)).trans HY1.out
  have HZ2 : Hid (w2.heap[(w.heap.size + 1 + 1)]? = some (.cells #[.slice none 0 0, .slice none 0 0] 25)) := (hb2.block (w.heap.size + 1 + 1) (by omega)).trans HZ1.out
  have zw2 : w.heap.size + 1 + 1 < w2.heap.size := by have := hb2.size; omega
  obtain ⟨o4', c4', e4, -, hc4, hel4⟩ := hO.form
  simp only [Value.slice.injEq, true_and] at e4
  obtain ⟨rfl, rfl⟩ := e4
  have HELC := Lib.hid hel4
  have HPS := Lib.hid hO.2
  clear hb2 hO hel4
  obtain ⟨x0, x1, xf, xz⟩ := cells_at2 HX2.out
  obtain ⟨y0, y1, y2, y3, y4⟩ := spot_cells HY2.out
  obtain ⟨z0, z1, zf, zz⟩ := cells_at2 HZ2.out
  have yz : (w.heap.size + 1) < w2.heap.size := by omega
  go_wp2
  go_loopw [28] (fun i wr => ∃ j : Nat, j ≤ m + 1 ∧ i = .int .i64 j ∧ Below w2.heap.size w2 wr) (fun i _ => m + 1 - (intOf i).toNat)
  case atStart => exact ⟨0, by omega, rfl, Below.refl _ _⟩
  case round =>
    clear x0 x1 xf xz y0 y1 y2 y3 y4 z0 z1 zf zz yz
    obtain ⟨w3, rfl⟩ : ∃ x : World, x = wr := ⟨_, rfl⟩
    obtain ⟨j, hj, rfl, hB23⟩ := hrel
    have HB3 := Lib.hid (below_step HB2.out hB23)
    have HX3 : Hid (w3.heap[w.heap.size]? = some (.cells #[.slice oo no co, .slice oq m cq] 25)) := (hB23.block w.heap.size (by omega)).trans HX2.out
    have HY3 : Hid (w3.heap[(w.heap.size + 1)]? = some (.cells #[.string pt, .int .i64 tx, .int .i64 ty, .int .i64 (k : Int), .bool fl] 39)) := (hB23.block (w.heap.size + 1) (by omega)).trans HY2.out
    have HZ3 : Hid (w3.heap[(w.heap.size + 1 + 1)]? = some (.cells #[.slice none 0 0, .slice none 0 0] 25)) := (hB23.block (w.heap.size + 1 + 1) (by omega)).trans HZ2.out
    have zw3 : w.heap.size + 1 + 1 < w3.heap.size := by have := hB23.size; omega
    have HB23 := Lib.hid hB23
    clear hB23
    by_cases hlt : j < m + 1
    · obtain ⟨bk1, fo, rfl, hbl, hcl⟩ := HELC.out j hlt
      have y0 : w3.cell? ⟨bk1, fo + j, none⟩ = some (.slice (oh' j) (consF no hn j) (ch' j)) := (HB23.out.cell (p := ⟨_, _, none⟩) hbl).trans (hcl j hlt)
      have z0 : bk1 < w3.heap.size := by have := HB23.out.size; omega
      have k0 : (0 : Int) ≤ (j : Int) := by omega
      have k1 : (j : Int) < (m : Int) + 1 := by omega
      clear hcl
      go_wp2_with fail
      (go_at_call 16; refine (HCF.out _ _ j hlt ((HPS.out j hlt).below HB23.out)).mono ?_; rintro e_ w7 ⟨rfl, hb7⟩)
      have HB27 := Lib.hid (below_step HB23.out hb7)
      clear hb7
      go_wp2
      go_roundw
      case rel => exact ⟨j + 1, by omega, by go_num, HB27.out⟩
      case measure => simp [intOf]; omega
    · have k2 : ¬ (j : Int) < (m : Int) + 1 := by omega
      obtain ⟨x0, x1, xf, xz⟩ := cells_at2 HX3.out
      obtain ⟨y0, y1, y2, y3, y4⟩ := spot_cells HY3.out
      obtain ⟨z0, z1, zf, zz⟩ := cells_at2 HZ3.out
      have yz : (w.heap.size + 1) < w3.heap.size := by omega
      go_wp2_with fail
      (go_at_fn 17; refine (moved_any fl _ no P _ pt tx ty k w3 (H0.out.below HB3.out) yz (spot_cells HY3.out) hk (by have := hr.out.po.n3; omega) hr.out.no32 ht hP).mono ?_; rintro e_ w6 ⟨o1, c1, rfl, hO1, hb6⟩)
      clear x0 x1 xf xz y0 y1 y2 y3 y4 z0 z1 zf zz yz
      have HB6 := Lib.hid (below_step HB3.out hb6)
      have HX6 : Hid (w6.heap[w.heap.size]? = some (.cells #[.slice oo no co, .slice oq m cq] 25)) := (hb6.block w.heap.size (by omega)).trans HX3.out
      have HY6 : Hid (w6.heap[(w.heap.size + 1)]? = some (.cells #[.string pt, .int .i64 tx, .int .i64 ty, .int .i64 (k : Int), .bool fl] 39)) := (hb6.block (w.heap.size + 1) (by omega)).trans HY3.out
      have HZ6 : Hid (w6.heap[(w.heap.size + 1 + 1)]? = some (.cells #[.slice none 0 0, .slice none 0 0] 25)) := (hb6.block (w.heap.size + 1 + 1) (by omega)).trans HZ3.out
      have zw6 : w.heap.size + 1 + 1 < w6.heap.size := by have := hb6.size; omega
      have HOO := Lib.hid (owns_mono hO1 (show (w.heap.size + 1 + 1) + 1 ≤ w3.heap.size by omega))
      clear hb6 hO1
      obtain ⟨x0, x1, xf, xz⟩ := cells_at2 HX6.out
      obtain ⟨y0, y1, y2, y3, y4⟩ := spot_cells HY6.out
      obtain ⟨z0, z1, zf, zz⟩ := cells_at2 HZ6.out
      have yz : (w.heap.size + 1) < w6.heap.size := by omega
      go_wp2
      go_loopw [45] (fun i wr => ∃ (j : Nat) (ol : Option Addr) (cl : Nat) (ro : Nat → Option Addr) (rc : Nat → Nat), j ≤ m ∧ i = .int .i64 j ∧ Hid (wr.heap[w6.heap.size]? = some (.cells #[.slice o1 no c1, .slice ol j cl] 25)) ∧ Hid (wr.ownsRow (w6.heap.size + 1) 22 1 (.slice ol j cl) j (listOf (fun i => .slice (ro i) (hn i) (rc i)) j)) ∧ Hid (∀ i, i < j → wr.ownsRow (w6.heap.size + 1) 37 2 (.slice (ro i) (hn i) (rc i)) (hn i) (flP (spotF fl (hn i) (fun a => spotT fl k (tx, ty) (H i a))) (hn i)) ∧ ∀ b, (Value.slice ol j cl).ownBlock = some b → (Value.slice (ro i) (hn i) (rc i)).ownBlock ≠ some b) ∧ w6.heap.size < wr.heap.size ∧ Below w6.heap.size w6 wr) (fun i _ => m - (intOf i).toNat)
      case atStart =>
        refine ⟨0, none, 0, fun _ => none, fun _ => 0, by omega, rfl, ?_, World.ownsRow_nil _ _ _ _, fun i hi => absurd hi (by omega), by simp, by go_grown⟩
        show _ = _
        simp (disch := (first | omega | (simp only [World.size_alloc, World.size_setCell] <;> omega))) only [heapA_at, heapA_old, heapS_same, heapS_other, setObj, Option.map_some]
        (try rfl)
      case round =>
        clear x0 x1 xf xz y0 y1 y2 y3 y4 z0 z1 zf zz yz
        obtain ⟨w4, rfl⟩ : ∃ x : World, x = wr := ⟨_, rfl⟩
        obtain ⟨j, ol, cl, ro, rc, hj, rfl, HOUT, HO, HRW, zbo, hB64⟩ := hrel
        have HB4 := Lib.hid (below_step HB6.out hB64)
        have HX4 : Hid (w4.heap[w.heap.size]? = some (.cells #[.slice oo no co, .slice oq m cq] 25)) := (hB64.block w.heap.size (by omega)).trans HX6.out
        have HY4 : Hid (w4.heap[(w.heap.size + 1)]? = some (.cells #[.string pt, .int .i64 tx, .int .i64 ty, .int .i64 (k : Int), .bool fl] 39)) := (hB64.block (w.heap.size + 1) (by omega)).trans HY6.out
        have HZ4 : Hid (w4.heap[(w.heap.size + 1 + 1)]? = some (.cells #[.slice none 0 0, .slice none 0 0] 25)) := (hB64.block (w.heap.size + 1 + 1) (by omega)).trans HZ6.out
        have zw4 : w.heap.size + 1 + 1 < w4.heap.size := by have := hB64.size; omega
        have HB64 := Lib.hid hB64
        have HBW4 := HB4
        obtain ⟨o0w4, o1w4, of4, os4⟩ := cells_at2 HOUT.out
        clear hB64
        obtain ⟨x0, x1, xf, xz⟩ := cells_at2 HX4.out
        obtain ⟨y0, y1, y2, y3, y4⟩ := spot_cells HY4.out
        obtain ⟨z0, z1, zf, zz⟩ := cells_at2 HZ4.out
        have yz : (w.heap.size + 1) < w4.heap.size := by omega
        by_cases hlt : j < m
        · obtain ⟨bk1, fo, rfl, hbl, hcl⟩ := HEL.out j hlt
          have q0 : w4.cell? ⟨bk1, fo + j, none⟩ = some (.slice (oh j) (hn j) (ch j)) := (HBW4.out.cell (p := ⟨_, _, none⟩) hbl).trans (hcl j hlt)
          have zk : bk1 < w4.heap.size := by have := HBW4.out.size; omega
          have k0 : (0 : Int) ≤ (j : Int) := by omega
          have k1 : (j : Int) < (m : Int) := by omega
          clear hcl
          obtain ⟨i0, hi, hz0, hz1, hz2⟩ := infoP_parts info_pts
          have hu : Tryd.prog.underlying 23 = some (.slice 22) := Tryd.underlying23
          go_wp2_with fail
          refine wp_region_relm 8 6 [0, 1, 2, 3, 4, 5] (by kernel_rfl) (by kernel_rfl) (by kernel_rfl) (by decide) (by kernel_rfl) ?_
          simp only [List.take_succ_cons, List.take_zero, fillL, Act.put, List.setIfInBounds_toArray, List.set_cons_zero, List.set_cons_succ]
          apply relm_is (by decide) (by decide)
          · intro u wx hb hd
            have hz := hb.size
            (try simp only [World.size_alloc, World.size_setCell] at hz)
            have hz0 : w6.heap.size < wx.heap.size := by omega
            have hz1 : w.heap.size + 1 < wx.heap.size := by omega
            obtain ⟨hc, hf⟩ := bcell hb
            have HBX := Lib.hid hb
            clear hb hz
            simp [depsS, Region.binds, updS, Stay.is, Stay.any] at hd
            go_simp
            first | exact ⟨Below.refl _ _, rfl⟩ | rfl
          apply relm_is (by decide) (by decide)
          · intro u wx hb hd
            have hz := hb.size
            (try simp only [World.size_alloc, World.size_setCell] at hz)
            have hz0 : w6.heap.size < wx.heap.size := by omega
            have hz1 : w.heap.size + 1 < wx.heap.size := by omega
            obtain ⟨hc, hf⟩ := bcell hb
            have HBX := Lib.hid hb
            clear hb hz
            simp [depsS, Region.binds, updS, Stay.is, Stay.any] at hd
            go_simp
            first | exact ⟨Below.refl _ _, rfl⟩ | rfl
          apply relm_is (by decide) (by decide)
          · intro u wx hb hd
            have hz := hb.size
            (try simp only [World.size_alloc, World.size_setCell] at hz)
            have hz0 : w6.heap.size < wx.heap.size := by omega
            have hz1 : w.heap.size + 1 < wx.heap.size := by omega
            obtain ⟨hc, hf⟩ := bcell hb
            have HBX := Lib.hid hb
            clear hb hz
            simp [depsS, Region.binds, updS, Stay.is, Stay.any] at hd
            go_simp
            first | exact ⟨Below.refl _ _, rfl⟩ | rfl
          apply relm_is (by decide) (by decide)
          · intro u wx hb hd
            have hz := hb.size
            (try simp only [World.size_alloc, World.size_setCell] at hz)
            have hz0 : w6.heap.size < wx.heap.size := by omega
            have hz1 : w.heap.size + 1 < wx.heap.size := by omega
            obtain ⟨hc, hf⟩ := bcell hb
            have HBX := Lib.hid hb
            clear hb hz
            simp [depsS, Region.binds, updS, Stay.is, Stay.any] at hd
            go_simp
            first | exact ⟨Below.refl _ _, rfl⟩ | rfl
          refine relm_stay (Stay.ownP w4.heap.size (hn j) (spotF fl (hn j) (fun a => spotT fl k (tx, ty) (H j a)))) (by decide) (by decide) ?_ ?_
          · intro u wx hb hd
            have hz := hb.size
            (try simp only [World.size_alloc, World.size_setCell] at hz)
            have hz0 : w6.heap.size < wx.heap.size := by omega
            have hz1 : w.heap.size + 1 < wx.heap.size := by omega
            obtain ⟨hc, hf⟩ := bcell hb
            have HBX := Lib.hid hb
            clear hb hz
            simp [depsS, Region.binds, updS, Stay.is, Stay.any] at hd
            go_simp
            (go_at_fn 17; refine (moved_any fl _ (hn j) (H j) _ pt tx ty k wx ((HHO.out j hlt).below (below_step HBW4.out HBX.out)) hz1 (spot_cells ((HBX.out.block _ (by omega)).trans HY4.out)) hk (by have := (hr.out.hp j hlt).n3; omega) (hr.out.h32 j hlt) ht (fun i hi => HHB.out j hlt i hi)).mono ?_; rintro e w1 ⟨o, c, rfl, h1, hb1⟩; exact ⟨_, rfl, hb1, o, c, rfl, owns_mono h1 HBX.out.size⟩)
          refine relm_stay (Stay.built1 w4.heap.size (hn j) (spotF fl (hn j) (fun a => spotT fl k (tx, ty) (H j a)))) (by decide) (by decide) ?_ ?_
          · intro u wx hb hd
            have hz := hb.size
            (try simp only [World.size_alloc, World.size_setCell] at hz)
            have hz0 : w6.heap.size < wx.heap.size := by omega
            have hz1 : w.heap.size + 1 < wx.heap.size := by omega
            obtain ⟨hc, hf⟩ := bcell hb
            have HBX := Lib.hid hb
            clear hb hz
            simp [depsS, Region.binds, updS, Stay.is, Stay.any] at hd
            obtain ⟨o, c, e, ho⟩ := hd
            go_simp
            exact ⟨(Below.refl _ _).alloc (Nat.le_refl _) _, _, o, c, rfl, heapA_at _ _ _ rfl, ownsP_on ho ((Below.refl _ _).alloc (Nat.le_refl _) _)⟩
          refine relm_append1 (n := hn j) (F := (spotF fl (hn j) (fun a => spotT fl k (tx, ty) (H j a)))) (w6.heap.size + 1) (.tmp 50) (.tmp 54) 23 rfl rfl i0 _ (listOf (fun i => .slice (ro i) (hn i) (rc i)) j) hu hi hz0 hz1 hz2 rfl (.slice ol j cl) (by decide) HO.out (by omega) (by unfold maxLen; omega) (by omega) ?_ ?_
          · intro u wx hb hd
            have hz := hb.size
            (try simp only [World.size_alloc, World.size_setCell] at hz)
            have hz0 : w6.heap.size < wx.heap.size := by omega
            have hz1 : w.heap.size + 1 < wx.heap.size := by omega
            obtain ⟨hc, hf⟩ := bcell hb
            have HBX := Lib.hid hb
            clear hb hz
            simp [depsS, Region.binds, updS, Stay.is, Stay.any] at hd
            obtain ⟨h1, h2, -⟩ := hd
            exact ⟨by first | exact h1 | simpa [Act.eval] using h1, h2⟩
          apply relm_free (by decide) (by decide)
          · intro u wx
            refine ⟨by simp [Region.wanted], ?_⟩
            go_simp
            first | exact ⟨rfl, rfl⟩ | rfl
          intro u w5 hq5 hE
          replace hq5 : (Stay.app1 _ _ _ _ _ _ _).p (u 6) w5 := hq5
          have e0 : u 0 = _ := hE 0 (by decide) (by decide) (Const.is _)
          have e1 : u 1 = _ := hE 1 (by decide) (by decide) (Const.is _)
          have e2 : u 2 = _ := hE 2 (by decide) (by decide) (Const.is _)
          have e3 : u 3 = _ := hE 3 (by decide) (by decide) (Const.is _)
          have e7 : u 7 = _ := hE 7 (by decide) (by decide) (Const.is _)
          obtain ⟨on, cn, HO5, HP5, hg5, hs5, hn5⟩ := hq5
          simp only [List.drop_succ_cons, List.drop_zero, List.take_succ_cons, List.take_zero, fillL, Act.put, List.setIfInBounds_toArray, List.set_cons_zero, List.set_cons_succ, e0, e1, e2, e3, e7]
          clear e0 e1 e2 e3 e7 hE
          generalize u 6 = v5 at *
          replace HO5 := Lib.hid HO5
          replace HP5 := Lib.hid HP5
          have hold : ∀ b, (Value.slice ol j cl).ownBlock = some b → w6.heap.size + 1 ≤ b := fun b hb => (owns_own_lt HO.out hb).1
          have HOUT5 : Hid (w5.heap[w6.heap.size]? = some (.cells #[.slice o1 no c1, .slice ol j cl] 25)) := (hg5.block _ (by omega) (fun e => by have := hold _ e.symm; omega)).trans HOUT.out
          have HB65 : Hid (Below w6.heap.size w6 w5) := by
            refine Below.grown HB64.out hg5 (by omega) (fun b hb => ?_)
            have := hold b hb
            omega
          obtain ⟨o5, c5, rfl⟩ := owns_form HO5.out
          have HROWS : Hid (∀ i, i < j → w5.ownsRow (w6.heap.size + 1) 37 2 (.slice (ro i) (hn i) (rc i)) (hn i) (flP (spotF fl (hn i) (fun a => spotT fl k (tx, ty) (H i a))) (hn i))) := fun i hi => owns_kept (HRW.out i hi).1 (fun b hb => hg5.block b (owns_own_lt (HRW.out i hi).1 hb).2 (fun e => (HRW.out i hi).2 b e.symm hb))
          have HNE : Hid (∀ i, i < j → ∀ b, (Value.slice o5 (j + 1) c5).ownBlock = some b → (Value.slice (ro i) (hn i) (rc i)).ownBlock ≠ some b) := fun i hi b hb e => by
            rcases (hn5 b hb).1 with h | h
            · have := (owns_own_lt (HRW.out i hi).1 e).2
              omega
            · exact (HRW.out i hi).2 b h e
          have HNN : Hid (∀ b, (Value.slice o5 (j + 1) c5).ownBlock = some b → (Value.slice on (hn j) cn).ownBlock ≠ some b) := fun b hb => (hn5 b hb).2
          have HS5 := Lib.hid hs5
          obtain ⟨q0w5, q1w5, qf5, qs5⟩ := cells_at2 HOUT5.out
          clear hold hg5 hn5 hs5 x0 x1 xf xz y0 y1 y2 y3 y4 z0 z1 zf zz yz q0
          go_wp2
          go_roundw
          case rel =>
            have hs5 := HS5.out
            have hown : ∀ (v : Value) (t : TypeId) (s n : Nat) (xs : List Value), w5.ownsRow (w6.heap.size + 1) t s v n xs → (w5.setCell ⟨w6.heap.size, 1, none⟩ (.slice o5 (j + 1) c5)).ownsRow (w6.heap.size + 1) t s v n xs := fun v t s n xs h => owns_kept h (fun g hg => heapS_other _ _ _ _ _ (by have := (owns_own_lt h hg).1; omega))
            refine ⟨j + 1, o5, c5, fun i => if i = j then on else ro i, fun i => if i = j then cn else rc i, by omega, by go_num, ?_, ?_, ?_, by simp; omega, by have h := HB65.out; go_grown⟩
            · show _ = _
              rw [heapS_same, HOUT5.out]
              rfl
            · show World.ownsRow _ _ _ _ _ _ _
              refine hown _ _ _ _ _ ?_
              rw [← listOf_ext (f := fun i => .slice (ro i) (hn i) (rc i)) (x := .slice on (hn j) cn) (fun i hi => by dsimp only; rw [if_neg (by omega), if_neg (by omega)]) (by simp)]
              exact HO5.out
            · intro i hi
              dsimp only
              by_cases e : i = j
              · subst e
                rw [if_pos rfl, if_pos rfl]
                exact ⟨hown _ _ _ _ _ (owns_mono HP5.out (show w6.heap.size + 1 ≤ w4.heap.size by omega)), HNN.out⟩
              · rw [if_neg e, if_neg e]
                exact ⟨hown _ _ _ _ _ (HROWS.out i (by omega)), HNE.out i (by omega)⟩
          case measure => simp [intOf]; omega
        · obtain rfl : j = m := by omega
          obtain ⟨q0w4, q1w4, qf4, qs4⟩ := cells_at2 HOUT.out
          go_wp2
          refine bodyPost_ret (v := .agg #[.slice o1 no c1, .slice ol j cl]) (by simp (maxDischargeDepth := 9) [results, Tryd.results5, go_sem, *]) rfl ?_
          have hown : ∀ (B : Nat) (v : Value) (t : TypeId) (s n : Nat) (xs : List Value), w4.ownsRow B t s v n xs → (w.heap.size + 1 + 1) < B → ((w4.setCell ⟨(w.heap.size + 1 + 1), 0, none⟩ (.slice o1 no c1)).setCell ⟨(w.heap.size + 1 + 1), 1, none⟩ (.slice ol j cl)).ownsRow B t s v n xs := fun B v t s n xs h hb => owns_kept h (fun g hg => by
            have := (owns_own_lt h hg).1
            rw [heapS_other _ _ _ _ _ (by omega), heapS_other _ _ _ _ _ (by omega)])
          refine ⟨_, _, _, _, ro, rc, rfl, owns_P (hown _ _ _ _ _ _ (ownsP_on HOO.out HB64.out) (by omega)), ?_, by have h := HBW4.out; go_grown⟩
          exact owns_holes (hown _ _ _ _ _ _ HO.out (by omega)) (fun i hi => listOf_at _ _ _ hi) (fun i hi => owns_P (hown _ _ _ _ _ _ (HRW.out i hi).1 (by omega)))
end Go.Proofs.YtgbhhjdmochhpaaDoor
namespace Go.Proofs.YtgbhhjdmochhpaaDoor
open Go Go.ChangeShapes Go.WideShapes Go.RowKit Go.ChangeAt
set_option linter.unusedVariables false
set_option linter.unusedSimpArgs false

set_option maxHeartbeats 8000000 in
set_option maxRecDepth 20000 in
theorem rcheck1 (v : Value) (m : Mat) (gv : Nat → Value) (id nd g s : ByteArray) (rv th ln ma e1 e2 e3 a1 a2 a3 t : Int) (oo oq : Option Addr) (no co nh cq : Nat) (P : Nat → Pt) (oh : Nat → Option Addr) (ch hn : Nat → Nat) (H : Nat → Nat → Pt) (w : World) (hm : MatAt w v m gv) (hp : PtsAt w (.slice oo no co) no P) (hh : HolesAt w (.slice oq nh cq) nh oh ch hn H) (hid : id.size ≤ 2147483648) (hnd : nd.size ≤ 2147483648) :
    Calls Tryd.prog 4 #[.agg #[(.string id), (.int .i64 rv), (.int .i64 1), (.string nd), (.string g), (.int .i64 th), (.slice oo no co), (.slice oq nh cq), (.string s), (.int .i64 ln), (.int .i64 ma), (.int .i64 e1), (.int .i64 e2), (.int .i64 e3), (.int .i64 a1), (.int .i64 a2), (.int .i64 a3), (.int .i64 t)], v] w fun e w' => ∃ c : Int, e = .returned (.int .i64 c) ∧ Hid (c = 0 → PlateOk id nd g s rv th ln ma e1 e2 e3 a1 a2 a3 t no P nh hn H m) ∧ Below w.heap.size w w' := by
  have HM := Lib.hid hm
  obtain ⟨vg, vs, rfl, hG, hS, -, -, -⟩ := hm
  obtain ⟨og, cg, rfl, -, -⟩ := hG.form
  obtain ⟨os', cs', rfl, -, -⟩ := hS.form
  clear hG hS
  obtain ⟨I1, hI1⟩ : ∃ b, idB id = b := ⟨_, rfl⟩
  have HI1 : Hid (∀ W, Calls Tryd.prog 8 #[.string id] W fun e w' => e = .returned (.bool I1) ∧ Below W.heap.size W w') := fun W => by rw [← hI1]; exact rIsId_any id W hid
  obtain ⟨I2, hI2⟩ : ∃ b, idB nd = b := ⟨_, rfl⟩
  have HI2 : Hid (∀ W, Calls Tryd.prog 8 #[.string nd] W fun e w' => e = .returned (.bool I2) ∧ Below W.heap.size W w') := fun W => by rw [← hI2]; exact rIsId_any nd W hnd
  obtain ⟨SP, hSP⟩ : ∃ b, spare1B s ln ma e1 e2 e3 = b := ⟨_, rfl⟩
  have HSP : Hid (∀ W, Calls Tryd.prog 9 #[.agg #[(.string id), (.int .i64 rv), (.int .i64 1), (.string nd), (.string g), (.int .i64 th), (.slice oo no co), (.slice oq nh cq), (.string s), (.int .i64 ln), (.int .i64 ma), (.int .i64 e1), (.int .i64 e2), (.int .i64 e3), (.int .i64 a1), (.int .i64 a2), (.int .i64 a3), (.int .i64 t)]] W fun e w' => e = .returned (.bool SP) ∧ Below W.heap.size W w') := fun W => by rw [← hSP]; exact rspare1 id nd g s rv th ln ma e1 e2 e3 a1 a2 a3 t oo oq no co nh cq W
  obtain ⟨VA, hVA⟩ : ∃ b, validF (a1, a2, a3) t = b := ⟨_, rfl⟩
  have HVA : Hid (∀ W, Calls Tryd.prog 13 #[.agg #[.int .i64 a1, .int .i64 a2, .int .i64 a3, .int .i64 t]] W fun e w' => e = .returned (.bool VA) ∧ Below W.heap.size W w') := fun W => by rw [← hVA]; exact rValid_any a1 a2 a3 t W
  obtain ⟨KN, hKN⟩ : ∃ b, known1B m g th = b := ⟨_, rfl⟩
  have HKN : Hid (∀ W v', MatAt W v' m gv → Calls Tryd.prog 10 #[.agg #[(.string id), (.int .i64 rv), (.int .i64 1), (.string nd), (.string g), (.int .i64 th), (.slice oo no co), (.slice oq nh cq), (.string s), (.int .i64 ln), (.int .i64 ma), (.int .i64 e1), (.int .i64 e2), (.int .i64 e3), (.int .i64 a1), (.int .i64 a2), (.int .i64 a3), (.int .i64 t)], v'] W fun e w' => e = .returned (.bool KN) ∧ Below W.heap.size W w') := fun W v' h => by rw [← hKN]; exact rknown1 v' m gv id nd g s rv th ln ma e1 e2 e3 a1 a2 a3 t oo oq no co nh cq W h
  have HP := Lib.hid hp
  have HHS := Lib.hid hh
  have HF1 := Lib.hid (And.intro hI1 (And.intro hI2 (And.intro hSP (And.intro hVA hKN))))
  clear hI1 hI2 hSP hVA hKN hp hh
  go_enter Tryd.func4, Tryd.ntmps4
  go_wp2_with fail
  obtain ⟨w0, hw0⟩ : ∃ X, ((w.alloc (.cells #[(.string id), (.int .i64 rv), (.int .i64 1), (.string nd), (.string g), (.int .i64 th), (.slice oo no co), (.slice oq nh cq), (.string s), (.int .i64 ln), (.int .i64 ma), (.int .i64 e1), (.int .i64 e2), (.int .i64 e3), (.int .i64 a1), (.int .i64 a2), (.int .i64 a3), (.int .i64 t)] 31)).alloc (.cells #[.slice og m.ng cg, .slice os' m.ns cs'] 35)) = X := ⟨_, rfl⟩
  have HQP : Hid (w0.heap[w.heap.size]? = some (.cells #[(.string id), (.int .i64 rv), (.int .i64 1), (.string nd), (.string g), (.int .i64 th), (.slice oo no co), (.slice oq nh cq), (.string s), (.int .i64 ln), (.int .i64 ma), (.int .i64 e1), (.int .i64 e2), (.int .i64 e3), (.int .i64 a1), (.int .i64 a2), (.int .i64 a3), (.int .i64 t)] 31)) := by
    show _ = _
    rw [← hw0]
    exact (heapA_old _ _ _ (by simp)).trans (heapA_at _ _ _ rfl)
  have HQM : Hid (w0.heap[(w.heap.size + 1)]? = some (.cells #[.slice og m.ng cg, .slice os' m.ns cs'] 35)) := by
    show _ = _
    rw [← hw0]
    exact heapA_at _ _ _ (by simp)
  have hBw0 : Below w.heap.size w w0 := by rw [← hw0]; exact (((Below.refl w.heap.size w).alloc (Nat.le_refl _) _).alloc (by simp) _)
  rw [hw0]
  clear hw0
  replace HM := Lib.hid (HM.out.below hBw0)
  obtain ⟨c0, c1, c2, c3, c4, c5, c6, c7, c8, c9, c10, c11, c12, c13, c14, c15, c16, c17, cf, cz⟩ := cells_at18 HQP.out
  obtain ⟨d0, d1, df, dz⟩ := cells_at2 HQM.out
  (go_at_call 8; refine (HI1.out _).mono ?_; rintro e_ w1 ⟨rfl, hb⟩)
  have hPw1 : Below w0.heap.size w0 w1 := below_step (w := w0) (by first | exact Below.refl _ _ | go_grown) hb
  have hBw1 : Below w.heap.size w w1 := below_step hBw0 hPw1
  replace HM := Lib.hid (HM.out.below hPw1)
  have HQP2 : Hid (w1.heap[w.heap.size]? = some (.cells #[(.string id), (.int .i64 rv), (.int .i64 1), (.string nd), (.string g), (.int .i64 th), (.slice oo no co), (.slice oq nh cq), (.string s), (.int .i64 ln), (.int .i64 ma), (.int .i64 e1), (.int .i64 e2), (.int .i64 e3), (.int .i64 a1), (.int .i64 a2), (.int .i64 a3), (.int .i64 t)] 31)) := (hPw1.block _ (block_lt HQP.out)).trans HQP.out
  have HQM2 : Hid (w1.heap[(w.heap.size + 1)]? = some (.cells #[.slice og m.ng cg, .slice os' m.ns cs'] 35)) := (hPw1.block _ (block_lt HQM.out)).trans HQM.out
  clear HQP HQM
  have HQP := HQP2
  have HQM := HQM2
  clear HQP2 HQM2
  clear c0 c1 c2 c3 c4 c5 c6 c7 c8 c9 c10 c11 c12 c13 c14 c15 c16 c17 cf cz d0 d1 df dz
  clear hb hPw1 hBw0
  cases I1 with
  | false =>
    obtain ⟨c0, c1, c2, c3, c4, c5, c6, c7, c8, c9, c10, c11, c12, c13, c14, c15, c16, c17, cf, cz⟩ := cells_at18 HQP.out
    obtain ⟨d0, d1, df, dz⟩ := cells_at2 HQM.out
    go_wp2
    go_returns
    exact ⟨6, rfl, fun h => absurd h (by decide), by go_grown⟩
  | true =>
    obtain ⟨c0, c1, c2, c3, c4, c5, c6, c7, c8, c9, c10, c11, c12, c13, c14, c15, c16, c17, cf, cz⟩ := cells_at18 HQP.out
    obtain ⟨d0, d1, df, dz⟩ := cells_at2 HQM.out
    go_wp2_with fail
    (go_at_call 8; refine (HI2.out _).mono ?_; rintro e_ w2 ⟨rfl, hb⟩)
    have hPw2 : Below w1.heap.size w1 w2 := below_step (w := w1) (by first | exact Below.refl _ _ | go_grown) hb
    have hBw2 : Below w.heap.size w w2 := below_step hBw1 hPw2
    replace HM := Lib.hid (HM.out.below hPw2)
    have HQP2 : Hid (w2.heap[w.heap.size]? = some (.cells #[(.string id), (.int .i64 rv), (.int .i64 1), (.string nd), (.string g), (.int .i64 th), (.slice oo no co), (.slice oq nh cq), (.string s), (.int .i64 ln), (.int .i64 ma), (.int .i64 e1), (.int .i64 e2), (.int .i64 e3), (.int .i64 a1), (.int .i64 a2), (.int .i64 a3), (.int .i64 t)] 31)) := (hPw2.block _ (block_lt HQP.out)).trans HQP.out
    have HQM2 : Hid (w2.heap[(w.heap.size + 1)]? = some (.cells #[.slice og m.ng cg, .slice os' m.ns cs'] 35)) := (hPw2.block _ (block_lt HQM.out)).trans HQM.out
    clear HQP HQM
    have HQP := HQP2
    have HQM := HQM2
    clear HQP2 HQM2
    clear c0 c1 c2 c3 c4 c5 c6 c7 c8 c9 c10 c11 c12 c13 c14 c15 c16 c17 cf cz d0 d1 df dz
    clear hb hPw2 hBw1
    cases I2 with
    | false =>
      obtain ⟨c0, c1, c2, c3, c4, c5, c6, c7, c8, c9, c10, c11, c12, c13, c14, c15, c16, c17, cf, cz⟩ := cells_at18 HQP.out
      obtain ⟨d0, d1, df, dz⟩ := cells_at2 HQM.out
      go_wp2
      go_returns
      exact ⟨6, rfl, fun h => absurd h (by decide), by go_grown⟩
    | true =>
      by_cases v1 : rv < 1
      · have k1 : decide (rv < 1) = true := decide_eq_true v1
        obtain ⟨c0, c1, c2, c3, c4, c5, c6, c7, c8, c9, c10, c11, c12, c13, c14, c15, c16, c17, cf, cz⟩ := cells_at18 HQP.out
        obtain ⟨d0, d1, df, dz⟩ := cells_at2 HQM.out
        go_wp2
        go_returns
        exact ⟨9, rfl, fun h => absurd h (by decide), by go_grown⟩
      have k1 : decide (rv < 1) = false := decide_eq_false v1
      by_cases v2 : 1000 < rv
      · have k2 : decide (1000 < rv) = true := decide_eq_true v2
        obtain ⟨c0, c1, c2, c3, c4, c5, c6, c7, c8, c9, c10, c11, c12, c13, c14, c15, c16, c17, cf, cz⟩ := cells_at18 HQP.out
        obtain ⟨d0, d1, df, dz⟩ := cells_at2 HQM.out
        go_wp2
        go_returns
        exact ⟨9, rfl, fun h => absurd h (by decide), by go_grown⟩
      have k2 : decide (1000 < rv) = false := decide_eq_false v2
      have HRV := Lib.hid (show 1 ≤ rv ∧ rv ≤ 1000 by omega)
      clear v1 v2
      obtain ⟨c0, c1, c2, c3, c4, c5, c6, c7, c8, c9, c10, c11, c12, c13, c14, c15, c16, c17, cf, cz⟩ := cells_at18 HQP.out
      obtain ⟨d0, d1, df, dz⟩ := cells_at2 HQM.out
      go_wp2_with (with_reducible refine wpList_load_all 31 w.heap.size 18 #[(.string id), (.int .i64 rv), (.int .i64 1), (.string nd), (.string g), (.int .i64 th), (.slice oo no co), (.slice oq nh cq), (.string s), (.int .i64 ln), (.int .i64 ma), (.int .i64 e1), (.int .i64 e2), (.int .i64 e3), (.int .i64 a1), (.int .i64 a2), (.int .i64 a3), (.int .i64 t)] 31 _ part_under part_size rfl rfl HQP.out ?_)
      (go_at_call 9; refine (HSP.out _).mono ?_; rintro e_ w3 ⟨rfl, hb⟩)
      have hPw3 : Below w2.heap.size w2 w3 := below_step (w := w2) (by first | exact Below.refl _ _ | go_grown) hb
      have hBw3 : Below w.heap.size w w3 := below_step hBw2 hPw3
      replace HM := Lib.hid (HM.out.below hPw3)
      have HQP2 : Hid (w3.heap[w.heap.size]? = some (.cells #[(.string id), (.int .i64 rv), (.int .i64 1), (.string nd), (.string g), (.int .i64 th), (.slice oo no co), (.slice oq nh cq), (.string s), (.int .i64 ln), (.int .i64 ma), (.int .i64 e1), (.int .i64 e2), (.int .i64 e3), (.int .i64 a1), (.int .i64 a2), (.int .i64 a3), (.int .i64 t)] 31)) := (hPw3.block _ (block_lt HQP.out)).trans HQP.out
      have HQM2 : Hid (w3.heap[(w.heap.size + 1)]? = some (.cells #[.slice og m.ng cg, .slice os' m.ns cs'] 35)) := (hPw3.block _ (block_lt HQM.out)).trans HQM.out
      clear HQP HQM
      have HQP := HQP2
      have HQM := HQM2
      clear HQP2 HQM2
      clear c0 c1 c2 c3 c4 c5 c6 c7 c8 c9 c10 c11 c12 c13 c14 c15 c16 c17 cf cz d0 d1 df dz
      clear hb hPw3 hBw2
      cases SP with
      | true =>
        obtain ⟨c0, c1, c2, c3, c4, c5, c6, c7, c8, c9, c10, c11, c12, c13, c14, c15, c16, c17, cf, cz⟩ := cells_at18 HQP.out
        obtain ⟨d0, d1, df, dz⟩ := cells_at2 HQM.out
        go_wp2
        go_returns
        exact ⟨2, rfl, fun h => absurd h (by decide), by go_grown⟩
      | false =>
        obtain ⟨c0, c1, c2, c3, c4, c5, c6, c7, c8, c9, c10, c11, c12, c13, c14, c15, c16, c17, cf, cz⟩ := cells_at18 HQP.out
        obtain ⟨d0, d1, df, dz⟩ := cells_at2 HQM.out
        go_wp2_with (with_reducible refine wpList_load_all 31 w.heap.size 18 #[(.string id), (.int .i64 rv), (.int .i64 1), (.string nd), (.string g), (.int .i64 th), (.slice oo no co), (.slice oq nh cq), (.string s), (.int .i64 ln), (.int .i64 ma), (.int .i64 e1), (.int .i64 e2), (.int .i64 e3), (.int .i64 a1), (.int .i64 a2), (.int .i64 a3), (.int .i64 t)] 31 _ part_under part_size rfl rfl HQP.out ?_)
        (go_at_call 10; refine (HKN.out _ _ (HM.out.below (by first | exact Below.refl _ _ | (show Below w3.heap.size w3 _; go_grown)))).mono ?_; rintro e_ w4 ⟨rfl, hb⟩)
        have hPw4 : Below w3.heap.size w3 w4 := below_step (w := w3) (by first | exact Below.refl _ _ | go_grown) hb
        have hBw4 : Below w.heap.size w w4 := below_step hBw3 hPw4
        replace HM := Lib.hid (HM.out.below hPw4)
        have HQP2 : Hid (w4.heap[w.heap.size]? = some (.cells #[(.string id), (.int .i64 rv), (.int .i64 1), (.string nd), (.string g), (.int .i64 th), (.slice oo no co), (.slice oq nh cq), (.string s), (.int .i64 ln), (.int .i64 ma), (.int .i64 e1), (.int .i64 e2), (.int .i64 e3), (.int .i64 a1), (.int .i64 a2), (.int .i64 a3), (.int .i64 t)] 31)) := (hPw4.block _ (block_lt HQP.out)).trans HQP.out
        have HQM2 : Hid (w4.heap[(w.heap.size + 1)]? = some (.cells #[.slice og m.ng cg, .slice os' m.ns cs'] 35)) := (hPw4.block _ (block_lt HQM.out)).trans HQM.out
        clear HQP HQM
        have HQP := HQP2
        have HQM := HQM2
        clear HQP2 HQM2
        clear c0 c1 c2 c3 c4 c5 c6 c7 c8 c9 c10 c11 c12 c13 c14 c15 c16 c17 cf cz d0 d1 df dz
        clear hb hPw4 hBw3
        cases KN with
        | false =>
          obtain ⟨c0, c1, c2, c3, c4, c5, c6, c7, c8, c9, c10, c11, c12, c13, c14, c15, c16, c17, cf, cz⟩ := cells_at18 HQP.out
          obtain ⟨d0, d1, df, dz⟩ := cells_at2 HQM.out
          go_wp2
          go_returns
          exact ⟨23, rfl, fun h => absurd h (by decide), by go_grown⟩
        | true =>
          obtain ⟨c0, c1, c2, c3, c4, c5, c6, c7, c8, c9, c10, c11, c12, c13, c14, c15, c16, c17, cf, cz⟩ := cells_at18 HQP.out
          obtain ⟨d0, d1, df, dz⟩ := cells_at2 HQM.out
          go_wp2_with fail
          (go_at_call 11; refine (check13_any _ _ no nh P oh ch hn H _ (HP.out.below hBw4) (HHS.out.below hBw4)).mono ?_; rintro e_ w5 ⟨E, rfl, hE, hb⟩)
          have hPw5 : Below w4.heap.size w4 w5 := below_step (w := w4) (by first | exact Below.refl _ _ | go_grown) hb
          have hBw5 : Below w.heap.size w w5 := below_step hBw4 hPw5
          have HQP2 : Hid (w5.heap[w.heap.size]? = some (.cells #[(.string id), (.int .i64 rv), (.int .i64 1), (.string nd), (.string g), (.int .i64 th), (.slice oo no co), (.slice oq nh cq), (.string s), (.int .i64 ln), (.int .i64 ma), (.int .i64 e1), (.int .i64 e2), (.int .i64 e3), (.int .i64 a1), (.int .i64 a2), (.int .i64 a3), (.int .i64 t)] 31)) := (hPw5.block _ (block_lt HQP.out)).trans HQP.out
          have HQM2 : Hid (w5.heap[(w.heap.size + 1)]? = some (.cells #[.slice og m.ng cg, .slice os' m.ns cs'] 35)) := (hPw5.block _ (block_lt HQM.out)).trans HQM.out
          clear HQP HQM
          have HQP := HQP2
          have HQM := HQM2
          clear HQP2 HQM2
          clear c0 c1 c2 c3 c4 c5 c6 c7 c8 c9 c10 c11 c12 c13 c14 c15 c16 c17 cf cz d0 d1 df dz
          clear hb hPw5 hBw4
          by_cases hE0 : E = 0
          rotate_left
          · have kE1 : (E == 0) = false := by simpa using hE0
            have kE2 : (E != 0) = true := by simpa using hE0
            obtain ⟨c0, c1, c2, c3, c4, c5, c6, c7, c8, c9, c10, c11, c12, c13, c14, c15, c16, c17, cf, cz⟩ := cells_at18 HQP.out
            obtain ⟨d0, d1, df, dz⟩ := cells_at2 HQM.out
            go_wp2
            go_returns
            exact ⟨E, rfl, fun h => absurd h hE0, by go_grown⟩
          subst hE0
          have HRR := Lib.hid (hE.out rfl)
          clear hE
          obtain ⟨c0, c1, c2, c3, c4, c5, c6, c7, c8, c9, c10, c11, c12, c13, c14, c15, c16, c17, cf, cz⟩ := cells_at18 HQP.out
          obtain ⟨d0, d1, df, dz⟩ := cells_at2 HQM.out
          go_wp2_with fail
          (go_at_call 13; refine (HVA.out _).mono ?_; rintro e_ w6 ⟨rfl, hb⟩)
          have hPw6 : Below w5.heap.size w5 w6 := below_step (w := w5) (by first | exact Below.refl _ _ | go_grown) hb
          have hBw6 : Below w.heap.size w w6 := below_step hBw5 hPw6
          have HQP2 : Hid (w6.heap[w.heap.size]? = some (.cells #[(.string id), (.int .i64 rv), (.int .i64 1), (.string nd), (.string g), (.int .i64 th), (.slice oo no co), (.slice oq nh cq), (.string s), (.int .i64 ln), (.int .i64 ma), (.int .i64 e1), (.int .i64 e2), (.int .i64 e3), (.int .i64 a1), (.int .i64 a2), (.int .i64 a3), (.int .i64 t)] 31)) := (hPw6.block _ (block_lt HQP.out)).trans HQP.out
          have HQM2 : Hid (w6.heap[(w.heap.size + 1)]? = some (.cells #[.slice og m.ng cg, .slice os' m.ns cs'] 35)) := (hPw6.block _ (block_lt HQM.out)).trans HQM.out
          clear HQP HQM
          have HQP := HQP2
          have HQM := HQM2
          clear HQP2 HQM2
          clear c0 c1 c2 c3 c4 c5 c6 c7 c8 c9 c10 c11 c12 c13 c14 c15 c16 c17 cf cz d0 d1 df dz
          clear hb hPw6 hBw5
          cases VA with
          | false =>
            obtain ⟨c0, c1, c2, c3, c4, c5, c6, c7, c8, c9, c10, c11, c12, c13, c14, c15, c16, c17, cf, cz⟩ := cells_at18 HQP.out
            obtain ⟨d0, d1, df, dz⟩ := cells_at2 HQM.out
            go_wp2
            go_returns
            exact ⟨9, rfl, fun h => absurd h (by decide), by go_grown⟩
          | true =>
            have hfin : Hid (PlateOk id nd g s rv th ln ma e1 e2 e3 a1 a2 a3 t no P nh hn H m) := by
              have hk := HF1.out.2.2.2.2
              unfold known1B at hk
              simp only [Bool.and_eq_true] at hk
              have hs := HF1.out.2.2.1
              unfold spare1B at hs
              exact ⟨HF1.out.1, HF1.out.2.1, HRV.out, by simpa using hs, hk.1, inB_true hk.2.1, inB_true hk.2.2.1, hk.2.2.2, HRR.out, HF1.out.2.2.2.1⟩
            obtain ⟨c0, c1, c2, c3, c4, c5, c6, c7, c8, c9, c10, c11, c12, c13, c14, c15, c16, c17, cf, cz⟩ := cells_at18 HQP.out
            obtain ⟨d0, d1, df, dz⟩ := cells_at2 HQM.out
            go_wp2
            go_returns
            exact ⟨0, rfl, fun _ => hfin.out, by go_grown⟩
end Go.Proofs.YtgbhhjdmochhpaaDoor
namespace Go.Proofs.YtgbhhjdmochhpaaDoor
open Go Go.ChangeShapes Go.WideShapes Go.RowKit Go.ChangeAt
set_option linter.unusedVariables false
set_option linter.unusedSimpArgs false

/-- a guarded load of a whole variable -/
theorem wpList_load_all_g {P : Program} {ops : Array Oper} {rest : List Oper} {a : Act} {w : World} {Q : Exit → Act → World → Prop} {p d : Tmp} {T : TypeId} {pos : String} {after : Array Edge} {g : Nat × Bool} (t : TypeId) (b k : Nat) (cs : Array Value) (ty : TypeId) (fs : Array Field)
    (hu : P.underlying t = some (.struct fs)) (hk : (P.info? t).map (fun i => i.size) = some k) (hp : a.eval (.tmp p) = .pointer (some ⟨b, 0, none⟩)) (hs : cs.size = k)
    (hh : w.heap[b]? = some (.cells cs ty)) (hw : Region.wanted ⟨some d, .load t (.tmp p), T, pos, after, some g⟩ (yielded ops a.tmps) = true) (h : wpList P ops Q rest (a.put (some d) (.agg cs)) w) :
    wpList P ops Q (⟨some d, .load t (.tmp p), T, pos, after, some g⟩ :: rest) a w := by
  refine wpList_step fun K hK => ?_
  simp only [hw, if_true]
  have hl := run_loadVar_all (P := P) hu hk hs hh
  unfold Oper.wp execOp
  simp only [hp]
  simp [Instr.loadAt, Instr.sureAddr, hl, Oper.upon]
  exact hK _ _ h
theorem ba_nil {s : ByteArray} (h : s.toList = []) : s = ⟨#[]⟩ := toList_inj (h.trans (show [] = (⟨#[]⟩ : ByteArray).toList by kernel_rfl))
set_option maxHeartbeats 16000000 in
set_option maxRecDepth 20000 in
theorem topPlates_walk (v : Value) (m : Mat) (gv : Nat → Value) (kd tx ty tk : Int) (pt : ByteArray) (fl : Bool) (id nd g s : ByteArray) (rv th ln ma e1 e2 e3 a1 a2 a3 t : Int) (oo oq : Option Addr) (no co nh cq : Nat) (P : Nat → Pt) (oh : Nat → Option Addr) (ch hn : Nat → Nat) (H : Nat → Nat → Pt) (w : World) (hm : MatAt w v m gv) (hp : PtsAt w (.slice oo no co) no P) (hh : HolesAt w (.slice oq nh cq) nh oh ch hn H) (hsi : id.size ≤ 2147483648) (hsn : nd.size ≤ 2147483648) (hml : MaxLenIs w) :
    Calls Tryd.prog 3 #[.agg #[(.string id), (.int .i64 rv), (.int .i64 kd), (.string nd), (.string g), (.int .i64 th), (.slice oo no co), (.slice oq nh cq), (.string s), (.int .i64 ln), (.int .i64 ma), (.int .i64 e1), (.int .i64 e2), (.int .i64 e3), (.int .i64 a1), (.int .i64 a2), (.int .i64 a3), (.int .i64 t)], v, .agg #[.string pt, .int .i64 tx, .int .i64 ty, .int .i64 tk, .bool fl]] w fun e w' => e = .returned (.bool true) ∧ Below w.heap.size w w' := by
  have HM := Lib.hid hm
  obtain ⟨vg, vs, rfl, hG, hS, -, -, -⟩ := hm
  obtain ⟨og, cg, rfl, hng, heg⟩ := hG.form
  obtain ⟨os', cs', rfl, -, -⟩ := hS.form
  have HEG := Lib.hid heg
  clear hG hS heg
  have HML := Lib.hid hml
  have HP := Lib.hid hp
  have HHS := Lib.hid hh
  clear hml hp hh
  by_cases hkd : kd = 1
  rotate_left
  · have kk : (kd == 1) = false := by simpa using hkd
    have kk2 : (kd != 1) = true := by simpa using hkd
    clear hkd
    go_enter Tryd.func3, Tryd.ntmps3
    go_wp2
    go_returns
    exact ⟨rfl, by go_grown⟩
  subst hkd
  go_enter Tryd.func3, Tryd.ntmps3
  go_wp2_with (with_reducible refine wpList_load_all_g 31 w.heap.size 18 #[(.string id), (.int .i64 rv), (.int .i64 1), (.string nd), (.string g), (.int .i64 th), (.slice oo no co), (.slice oq nh cq), (.string s), (.int .i64 ln), (.int .i64 ma), (.int .i64 e1), (.int .i64 e2), (.int .i64 e3), (.int .i64 a1), (.int .i64 a2), (.int .i64 a3), (.int .i64 t)] 31 _ part_under part_size rfl rfl (show ((((w.alloc (.cells #[(.string id), (.int .i64 rv), (.int .i64 1), (.string nd), (.string g), (.int .i64 th), (.slice oo no co), (.slice oq nh cq), (.string s), (.int .i64 ln), (.int .i64 ma), (.int .i64 e1), (.int .i64 e2), (.int .i64 e3), (.int .i64 a1), (.int .i64 a2), (.int .i64 a3), (.int .i64 t)] 31)).alloc (.cells #[.slice og m.ng cg, .slice os' m.ns cs'] 35)).alloc (.cells #[.string pt, .int .i64 tx, .int .i64 ty, .int .i64 tk, .bool fl] 39)).heap[w.heap.size]? = some (.cells #[(.string id), (.int .i64 rv), (.int .i64 1), (.string nd), (.string g), (.int .i64 th), (.slice oo no co), (.slice oq nh cq), (.string s), (.int .i64 ln), (.int .i64 ma), (.int .i64 e1), (.int .i64 e2), (.int .i64 e3), (.int .i64 a1), (.int .i64 a2), (.int .i64 a3), (.int .i64 t)] 31)) from (heapA_old _ _ _ (by simp; omega)).trans ((heapA_old _ _ _ (by simp)).trans (heapA_at _ _ _ rfl))) (by first | rfl | (simp [Region.wanted, yielded]; done)) ?_)
  obtain ⟨w0, hw0⟩ : ∃ X, (((w.alloc (.cells #[(.string id), (.int .i64 rv), (.int .i64 1), (.string nd), (.string g), (.int .i64 th), (.slice oo no co), (.slice oq nh cq), (.string s), (.int .i64 ln), (.int .i64 ma), (.int .i64 e1), (.int .i64 e2), (.int .i64 e3), (.int .i64 a1), (.int .i64 a2), (.int .i64 a3), (.int .i64 t)] 31)).alloc (.cells #[.slice og m.ng cg, .slice os' m.ns cs'] 35)).alloc (.cells #[.string pt, .int .i64 tx, .int .i64 ty, .int .i64 tk, .bool fl] 39)) = X := ⟨_, rfl⟩
  have HQP : Hid (w0.heap[w.heap.size]? = some (.cells #[(.string id), (.int .i64 rv), (.int .i64 1), (.string nd), (.string g), (.int .i64 th), (.slice oo no co), (.slice oq nh cq), (.string s), (.int .i64 ln), (.int .i64 ma), (.int .i64 e1), (.int .i64 e2), (.int .i64 e3), (.int .i64 a1), (.int .i64 a2), (.int .i64 a3), (.int .i64 t)] 31)) := by
    show _ = _
    rw [← hw0]
    exact (heapA_old _ _ _ (by simp; omega)).trans ((heapA_old _ _ _ (by simp)).trans (heapA_at _ _ _ rfl))
  have HQM : Hid (w0.heap[(w.heap.size + 1)]? = some (.cells #[.slice og m.ng cg, .slice os' m.ns cs'] 35)) := by
    show _ = _
    rw [← hw0]
    exact (heapA_old _ _ _ (by simp)).trans (heapA_at _ _ _ (by simp))
  have HQS : Hid (w0.heap[(w.heap.size + 1 + 1)]? = some (.cells #[.string pt, .int .i64 tx, .int .i64 ty, .int .i64 tk, .bool fl] 39)) := by
    show _ = _
    rw [← hw0]
    exact heapA_at _ _ _ (by simp)
  have hBw0 : Below w.heap.size w w0 := by rw [← hw0]; exact (((Below.refl w.heap.size w).alloc (Nat.le_refl _) _).alloc (by simp) _).alloc (by simp; omega) _
  rw [hw0]
  clear hw0
  replace HM := Lib.hid (HM.out.below hBw0)
  replace HML := Lib.hid (HML.out.below hBw0)
  obtain ⟨c0, c1, c2, c3, c4, c5, c6, c7, c8, c9, c10, c11, c12, c13, c14, c15, c16, c17, cf, cz⟩ := cells_at18 HQP.out
  obtain ⟨d0, d1, df, dz⟩ := cells_at2 HQM.out
  obtain ⟨s0, s1, s2, s3, s4⟩ := spot_cells HQS.out
  have sz := block_lt HQS.out
  (go_at_call 4; refine (rcheck1 _ m gv id nd g s rv th ln ma e1 e2 e3 a1 a2 a3 t oo oq no co nh cq P oh ch hn H _ (HM.out.below (by first | exact Below.refl _ _ | (show Below w0.heap.size w0 _; go_grown))) (HP.out.below hBw0) (HHS.out.below hBw0) hsi hsn).mono ?_; rintro e_ w1 ⟨E, rfl, hE, hb⟩)
  have hPw1 : Below w0.heap.size w0 w1 := below_step (w := w0) (by first | exact Below.refl _ _ | go_grown) hb
  have hBw1 : Below w.heap.size w w1 := below_step hBw0 hPw1
  replace HM := Lib.hid (HM.out.below hPw1)
  replace HML := Lib.hid (HML.out.below hPw1)
  have HQP2 : Hid (w1.heap[w.heap.size]? = some (.cells #[(.string id), (.int .i64 rv), (.int .i64 1), (.string nd), (.string g), (.int .i64 th), (.slice oo no co), (.slice oq nh cq), (.string s), (.int .i64 ln), (.int .i64 ma), (.int .i64 e1), (.int .i64 e2), (.int .i64 e3), (.int .i64 a1), (.int .i64 a2), (.int .i64 a3), (.int .i64 t)] 31)) := (hPw1.block _ (block_lt HQP.out)).trans HQP.out
  have HQM2 : Hid (w1.heap[(w.heap.size + 1)]? = some (.cells #[.slice og m.ng cg, .slice os' m.ns cs'] 35)) := (hPw1.block _ (block_lt HQM.out)).trans HQM.out
  clear HQP HQM
  have HQP := HQP2
  have HQM := HQM2
  clear HQP2 HQM2
  have HQS2 : Hid (w1.heap[(w.heap.size + 1 + 1)]? = some (.cells #[.string pt, .int .i64 tx, .int .i64 ty, .int .i64 tk, .bool fl] 39)) := (hPw1.block _ (block_lt HQS.out)).trans HQS.out
  clear HQS
  have HQS := HQS2
  clear HQS2
  clear c0 c1 c2 c3 c4 c5 c6 c7 c8 c9 c10 c11 c12 c13 c14 c15 c16 c17 cf cz d0 d1 df dz
  clear s0 s1 s2 s3 s4 sz
  clear hb hPw1 hBw0
  as_aux_lemma =>
    by_cases hE0 : E = 0
    rotate_left
    · have kE1 : (E == 0) = false := by simpa using hE0
      have kE2 : (E != 0) = true := by simpa using hE0
      clear hE0
      as_aux_lemma =>
        obtain ⟨c0, c1, c2, c3, c4, c5, c6, c7, c8, c9, c10, c11, c12, c13, c14, c15, c16, c17, cf, cz⟩ := cells_at18 HQP.out
        obtain ⟨d0, d1, df, dz⟩ := cells_at2 HQM.out
        obtain ⟨s0, s1, s2, s3, s4⟩ := spot_cells HQS.out
        have sz := block_lt HQS.out
        go_wp2
        go_returns
        exact ⟨rfl, by go_grown⟩
    subst hE0
    have HOK := Lib.hid (hE.out rfl)
    clear hE
    by_cases q0 : tx < 0
    · have k0 : decide (tx < 0) = true := decide_eq_true q0
      as_aux_lemma =>
        obtain ⟨c0, c1, c2, c3, c4, c5, c6, c7, c8, c9, c10, c11, c12, c13, c14, c15, c16, c17, cf, cz⟩ := cells_at18 HQP.out
        obtain ⟨d0, d1, df, dz⟩ := cells_at2 HQM.out
        obtain ⟨s0, s1, s2, s3, s4⟩ := spot_cells HQS.out
        have sz := block_lt HQS.out
        go_wp2
        go_returns
        exact ⟨rfl, by go_grown⟩
    have k0 : decide (tx < 0) = false := decide_eq_false q0
    by_cases q1 : 16384 < tx
    · have k1 : decide (16384 < tx) = true := decide_eq_true q1
      as_aux_lemma =>
        obtain ⟨c0, c1, c2, c3, c4, c5, c6, c7, c8, c9, c10, c11, c12, c13, c14, c15, c16, c17, cf, cz⟩ := cells_at18 HQP.out
        obtain ⟨d0, d1, df, dz⟩ := cells_at2 HQM.out
        obtain ⟨s0, s1, s2, s3, s4⟩ := spot_cells HQS.out
        have sz := block_lt HQS.out
        go_wp2
        go_returns
        exact ⟨rfl, by go_grown⟩
    have k1 : decide (16384 < tx) = false := decide_eq_false q1
    by_cases q2 : ty < 0
    · have k2 : decide (ty < 0) = true := decide_eq_true q2
      as_aux_lemma =>
        obtain ⟨c0, c1, c2, c3, c4, c5, c6, c7, c8, c9, c10, c11, c12, c13, c14, c15, c16, c17, cf, cz⟩ := cells_at18 HQP.out
        obtain ⟨d0, d1, df, dz⟩ := cells_at2 HQM.out
        obtain ⟨s0, s1, s2, s3, s4⟩ := spot_cells HQS.out
        have sz := block_lt HQS.out
        go_wp2
        go_returns
        exact ⟨rfl, by go_grown⟩
    have k2 : decide (ty < 0) = false := decide_eq_false q2
    by_cases q3 : 16384 < ty
    · have k3 : decide (16384 < ty) = true := decide_eq_true q3
      as_aux_lemma =>
        obtain ⟨c0, c1, c2, c3, c4, c5, c6, c7, c8, c9, c10, c11, c12, c13, c14, c15, c16, c17, cf, cz⟩ := cells_at18 HQP.out
        obtain ⟨d0, d1, df, dz⟩ := cells_at2 HQM.out
        obtain ⟨s0, s1, s2, s3, s4⟩ := spot_cells HQS.out
        have sz := block_lt HQS.out
        go_wp2
        go_returns
        exact ⟨rfl, by go_grown⟩
    have k3 : decide (16384 < ty) = false := decide_eq_false q3
    by_cases q4 : tk < 0
    · have k4 : decide (tk < 0) = true := decide_eq_true q4
      as_aux_lemma =>
        obtain ⟨c0, c1, c2, c3, c4, c5, c6, c7, c8, c9, c10, c11, c12, c13, c14, c15, c16, c17, cf, cz⟩ := cells_at18 HQP.out
        obtain ⟨d0, d1, df, dz⟩ := cells_at2 HQM.out
        obtain ⟨s0, s1, s2, s3, s4⟩ := spot_cells HQS.out
        have sz := block_lt HQS.out
        go_wp2
        go_returns
        exact ⟨rfl, by go_grown⟩
    have k4 : decide (tk < 0) = false := decide_eq_false q4
    by_cases q5 : 3 < tk
    · have k5 : decide (3 < tk) = true := decide_eq_true q5
      as_aux_lemma =>
        obtain ⟨c0, c1, c2, c3, c4, c5, c6, c7, c8, c9, c10, c11, c12, c13, c14, c15, c16, c17, cf, cz⟩ := cells_at18 HQP.out
        obtain ⟨d0, d1, df, dz⟩ := cells_at2 HQM.out
        obtain ⟨s0, s1, s2, s3, s4⟩ := spot_cells HQS.out
        have sz := block_lt HQS.out
        go_wp2
        go_returns
        exact ⟨rfl, by go_grown⟩
    have k5 : decide (3 < tk) = false := decide_eq_false q5
    as_aux_lemma =>
      obtain ⟨k, rfl⟩ : ∃ k : Nat, tk = (k : Int) := ⟨tk.toNat, by omega⟩
      have hk : k ≤ 3 := by omega
      have ht : (0 ≤ tx ∧ tx ≤ 16384) ∧ 0 ≤ ty ∧ ty ≤ 16384 := by omega
      clear q0 q1 q2 q3 q4 q5
      have HRG := Lib.hid HOK.out.sh.reg
      obtain ⟨sp1, sp2, sp3, sp4⟩ := HOK.out.sp
      obtain rfl : s = ⟨#[]⟩ := ba_nil sp1
      simp only [Prod.mk.injEq] at sp4
      obtain ⟨sp4, sp5, sp6⟩ := sp4
      subst sp2 sp3 sp4 sp5 sp6
      have HB1 := Lib.hid hBw1
      clear sp1 hBw1
      obtain ⟨c0, c1, c2, c3, c4, c5, c6, c7, c8, c9, c10, c11, c12, c13, c14, c15, c16, c17, cf, cz⟩ := cells_at18 HQP.out
      obtain ⟨d0, d1, df, dz⟩ := cells_at2 HQM.out
      obtain ⟨s0, s1, s2, s3, s4⟩ := spot_cells HQS.out
      have sz := block_lt HQS.out
      go_wp2
      go_loopw [7] (fun i wr => ∃ j : Nat, j ≤ no ∧ i = .int .i64 j ∧ Hid (∀ i, i < j → (-16384 ≤ (P i).1 ∧ (P i).1 ≤ 16384) ∧ -16384 ≤ (P i).2 ∧ (P i).2 ≤ 16384) ∧ Below w1.heap.size w1 wr) (fun i _ => no - (intOf i).toNat)
      case atStart => exact ⟨0, by omega, rfl, fun i hi => absurd hi (by omega), Below.refl _ _⟩
      case round =>
        clear c0 c1 c2 c3 c4 c5 c6 c7 c8 c9 c10 c11 c12 c13 c14 c15 c16 c17 cf cz d0 d1 df dz
        clear s0 s1 s2 s3 s4 sz
        obtain ⟨w2, rfl⟩ : ∃ x : World, x = wr := ⟨_, rfl⟩
        obtain ⟨j, hj, rfl, hbd, hPw2⟩ := hrel
        have hBw2 : Below w.heap.size w w2 := below_step HB1.out hPw2
        replace HM := Lib.hid (HM.out.below hPw2)
        replace HML := Lib.hid (HML.out.below hPw2)
        have HQP2 : Hid (w2.heap[w.heap.size]? = some (.cells #[(.string id), (.int .i64 rv), (.int .i64 1), (.string nd), (.string g), (.int .i64 th), (.slice oo no co), (.slice oq nh cq), (.string ⟨#[]⟩), (.int .i64 0), (.int .i64 0), (.int .i64 0), (.int .i64 0), (.int .i64 0), (.int .i64 a1), (.int .i64 a2), (.int .i64 a3), (.int .i64 t)] 31)) := (hPw2.block _ (block_lt HQP.out)).trans HQP.out
        have HQM2 : Hid (w2.heap[(w.heap.size + 1)]? = some (.cells #[.slice og m.ng cg, .slice os' m.ns cs'] 35)) := (hPw2.block _ (block_lt HQM.out)).trans HQM.out
        clear HQP HQM
        have HQP := HQP2
        have HQM := HQM2
        clear HQP2 HQM2
        have HQS2 : Hid (w2.heap[(w.heap.size + 1 + 1)]? = some (.cells #[.string pt, .int .i64 tx, .int .i64 ty, .int .i64 (k : Int), .bool fl] 39)) := (hPw2.block _ (block_lt HQS.out)).trans HQS.out
        clear HQS
        have HQS := HQS2
        clear HQS2
        have HP12 := Lib.hid hPw2
        clear hPw2
        by_cases hlt : j < no
        · as_aux_lemma =>
            obtain ⟨oo', co', ho, hno, hcob, hel⟩ := HP.out.form
            simp only [Value.slice.injEq, true_and] at ho
            obtain ⟨rfl, rfl⟩ := ho
            obtain ⟨b1, f1, rfl, hbl1, hcl1⟩ := hel j hlt
            have p0 : w2.cell? ⟨b1, f1 + j * 2, none⟩ = some (.int .i64 (P j).1) := (hBw2.cell (p := ⟨_, _, none⟩) hbl1).trans (hcl1 j hlt).1
            have p1 : w2.cell? ⟨b1, f1 + j * 2 + 1, none⟩ = some (.int .i64 (P j).2) := (hBw2.cell (p := ⟨_, _, none⟩) hbl1).trans (hcl1 j hlt).2
            have hbr : b1 < w2.heap.size := by have := hBw2.size; omega
            have i0 : (0 : Int) ≤ (j : Int) := by omega
            have i1 : (j : Int) < (no : Int) := by omega
            clear hcl1 hel
            obtain ⟨x1, hx1⟩ : ∃ e, (P j).1 = e := ⟨_, rfl⟩
            obtain ⟨x2, hx2⟩ : ∃ e, (P j).2 = e := ⟨_, rfl⟩
            have HXX := Lib.hid (And.intro hx1 hx2)
            rw [hx1] at p0
            rw [hx2] at p1
            clear hx1 hx2
            obtain ⟨c0, c1, c2, c3, c4, c5, c6, c7, c8, c9, c10, c11, c12, c13, c14, c15, c16, c17, cf, cz⟩ := cells_at18 HQP.out
            obtain ⟨d0, d1, df, dz⟩ := cells_at2 HQM.out
            obtain ⟨s0, s1, s2, s3, s4⟩ := spot_cells HQS.out
            have sz := block_lt HQS.out
            by_cases r0 : x1 < -16384
            · have l0 : decide (x1 < -16384) = true := decide_eq_true r0
              go_wp2
              go_returns
              exact ⟨rfl, by go_grown⟩
            have l0 : decide (x1 < -16384) = false := decide_eq_false r0
            by_cases r1 : 16384 < x1
            · have l1 : decide (16384 < x1) = true := decide_eq_true r1
              go_wp2
              go_returns
              exact ⟨rfl, by go_grown⟩
            have l1 : decide (16384 < x1) = false := decide_eq_false r1
            by_cases r2 : x2 < -16384
            · have l2 : decide (x2 < -16384) = true := decide_eq_true r2
              go_wp2
              go_returns
              exact ⟨rfl, by go_grown⟩
            have l2 : decide (x2 < -16384) = false := decide_eq_false r2
            by_cases r3 : 16384 < x2
            · have l3 : decide (16384 < x2) = true := decide_eq_true r3
              go_wp2
              go_returns
              exact ⟨rfl, by go_grown⟩
            have l3 : decide (16384 < x2) = false := decide_eq_false r3
            have hbd2 : Hid (∀ i, i < j + 1 → (-16384 ≤ (P i).1 ∧ (P i).1 ≤ 16384) ∧ -16384 ≤ (P i).2 ∧ (P i).2 ≤ 16384) := fun i hi => by
              by_cases e : i = j
              · rw [e, HXX.out.1, HXX.out.2]; omega
              · exact hbd.out i (by omega)
            clear r0 r1 r2 r3
            go_wp2
            go_roundw
            case rel => exact ⟨j + 1, by omega, by go_num, hbd2, by have h := HP12.out; have hz := h.size; go_grown⟩
            case measure => simp [intOf]; omega
        · as_aux_lemma =>
            obtain rfl : j = no := by omega
            have HBD : Hid (∀ i, i < j → (-16384 ≤ (P i).1 ∧ (P i).1 ≤ 16384) ∧ -16384 ≤ (P i).2 ∧ (P i).2 ≤ 16384) := hbd
            obtain ⟨HR2, hAR⟩ : Hid (Reg j (spotF fl (j) (fun a => spotT fl k (tx, ty) (P a))) nh hn (fun i => (spotF fl (hn i) (fun a => spotT fl k (tx, ty) (H i a))))) ∧ area2S j (spotF fl (j) (fun a => spotT fl k (tx, ty) (P a))) nh hn (fun i => (spotF fl (hn i) (fun a => spotT fl k (tx, ty) (H i a)))) = area2S j P nh hn H := HRG.out.placed HBD.out fl k ht
            obtain ⟨AV, hAV⟩ : ∃ e, area2S j P nh hn H = e := ⟨_, rfl⟩
            have HAC : Hid (∀ W v' u', PtsAt W v' j P → HolesAt W u' nh oh ch hn H → Calls Tryd.prog 6 #[.agg #[v', u']] W fun e w' => e = .returned (.int .i64 AV) ∧ Below W.heap.size W w') := fun W v' u' h1 h2 => by rw [← hAV]; exact area2G_ok _ _ j nh P oh ch hn H W h1 h2 HRG
            have HAD : Hid (∀ W v' u' oh' ch', PtsAt W v' j (spotF fl (j) (fun a => spotT fl k (tx, ty) (P a))) → HolesAt W u' nh oh' ch' hn (fun i => (spotF fl (hn i) (fun a => spotT fl k (tx, ty) (H i a)))) → Calls Tryd.prog 6 #[.agg #[v', u']] W fun e w' => e = .returned (.int .i64 AV) ∧ Below W.heap.size W w') := fun W v' u' oh' ch' h1 h2 => by rw [← hAV, ← hAR]; exact area2G_ok _ _ j nh _ oh' ch' hn _ W h1 h2 HR2
            have hav : 0 < AV ∧ AV ≤ 1099511627776 := by
              have h1 := HRG.out.area_pos
              have h2 := area2S_le HRG.out
              omega
            have kav : decide (AV < 1) = false := decide_eq_false (by omega)
            have HAV := Lib.hid hAV
            clear hAV hAR
            have HB2r := Lib.hid hBw2
            obtain ⟨c0, c1, c2, c3, c4, c5, c6, c7, c8, c9, c10, c11, c12, c13, c14, c15, c16, c17, cf, cz⟩ := cells_at18 HQP.out
            obtain ⟨d0, d1, df, dz⟩ := cells_at2 HQM.out
            obtain ⟨s0, s1, s2, s3, s4⟩ := spot_cells HQS.out
            have sz := block_lt HQS.out
            go_wp2_with fail
            (go_at_call 5; refine (move_ok _ _ j nh P oh ch hn H pt tx ty k fl _ (HP.out.below hBw2) (HHS.out.below hBw2) HRG hk ht HBD).mono ?_; rintro e_ w3 ⟨o1, c1', o2, c2', oh', ch', rfl, hp', hh', hb⟩)
            have hPw3 : Below w2.heap.size w2 w3 := hb
            have hBw3 : Below w.heap.size w w3 := below_step hBw2 hPw3
            replace HM := Lib.hid (HM.out.below hPw3)
            replace HML := Lib.hid (HML.out.below hPw3)
            have HP3 := Lib.hid hp'
            have HH3 := Lib.hid hh'
            as_aux_lemma =>
              have HQP2 : Hid (w3.heap[w.heap.size]? = some (.cells #[(.string id), (.int .i64 rv), (.int .i64 1), (.string nd), (.string g), (.int .i64 th), (.slice oo j co), (.slice oq nh cq), (.string ⟨#[]⟩), (.int .i64 0), (.int .i64 0), (.int .i64 0), (.int .i64 0), (.int .i64 0), (.int .i64 a1), (.int .i64 a2), (.int .i64 a3), (.int .i64 t)] 31)) := (hPw3.block _ (block_lt HQP.out)).trans HQP.out
              have HQM2 : Hid (w3.heap[(w.heap.size + 1)]? = some (.cells #[.slice og m.ng cg, .slice os' m.ns cs'] 35)) := (hPw3.block _ (block_lt HQM.out)).trans HQM.out
              clear HQP HQM
              have HQP := HQP2
              have HQM := HQM2
              clear HQP2 HQM2
              clear c0 c1 c2 c3 c4 c5 c6 c7 c8 c9 c10 c11 c12 c13 c14 c15 c16 c17 cf cz d0 d1 df dz
              clear s0 s1 s2 s3 s4 sz
              clear hb hPw3 hBw2 hp' hh' HQS
              have z33 : w3.heap.size < w3.heap.size + 1 := by omega
              obtain ⟨c0, c1, c2, c3, c4, c5, c6, c7, c8, c9, c10, c11, c12, c13, c14, c15, c16, c17, cf, cz⟩ := cells_at18 HQP.out
              obtain ⟨d0, d1, df, dz⟩ := cells_at2 HQM.out
              go_wp2_with fail
              (go_at_call 6; refine (HAC.out _ _ _ (HP.out.below (by go_grown)) (HHS.out.below (by go_grown))).mono ?_; rintro e_ w4 ⟨rfl, hb⟩)
              have HX4 : Hid (w4.heap[w3.heap.size]? = some (.cells #[.slice o1 j c1', .slice o2 nh c2'] 25)) := (hb.block _ (by simp)).trans (by simp (disch := (first | omega | (simp only [World.size_alloc, World.size_setCell] <;> omega))) only [heapA_at, heapA_old, heapS_same, heapS_other, setObj, Option.map_some]; (try rfl))
              have hPw4 : Below w3.heap.size w3 w4 := below_step (w := w3) (by first | exact Below.refl _ _ | go_grown) hb
              have hBw4 : Below w.heap.size w w4 := below_step hBw3 hPw4
              replace HM := Lib.hid (HM.out.below hPw4)
              replace HML := Lib.hid (HML.out.below hPw4)
              replace HP3 := Lib.hid (HP3.out.below hPw4)
              replace HH3 := Lib.hid (HH3.out.below hPw4)
              as_aux_lemma =>
                have HQP2 : Hid (w4.heap[w.heap.size]? = some (.cells #[(.string id), (.int .i64 rv), (.int .i64 1), (.string nd), (.string g), (.int .i64 th), (.slice oo j co), (.slice oq nh cq), (.string ⟨#[]⟩), (.int .i64 0), (.int .i64 0), (.int .i64 0), (.int .i64 0), (.int .i64 0), (.int .i64 a1), (.int .i64 a2), (.int .i64 a3), (.int .i64 t)] 31)) := (hPw4.block _ (block_lt HQP.out)).trans HQP.out
                have HQM2 : Hid (w4.heap[(w.heap.size + 1)]? = some (.cells #[.slice og m.ng cg, .slice os' m.ns cs'] 35)) := (hPw4.block _ (block_lt HQM.out)).trans HQM.out
                clear HQP HQM
                have HQP := HQP2
                have HQM := HQM2
                clear HQP2 HQM2
                clear c0 c1 c2 c3 c4 c5 c6 c7 c8 c9 c10 c11 c12 c13 c14 c15 c16 c17 cf cz d0 d1 df dz
                clear hb hPw4 hBw3 z33
                obtain ⟨x0, x1, xf, xz⟩ := cells_at2 HX4.out
                obtain ⟨c0, c1, c2, c3, c4, c5, c6, c7, c8, c9, c10, c11, c12, c13, c14, c15, c16, c17, cf, cz⟩ := cells_at18 HQP.out
                obtain ⟨d0, d1, df, dz⟩ := cells_at2 HQM.out
                go_wp2_with fail
                (go_at_call 6; refine (HAD.out _ _ _ oh' ch' HP3.out HH3.out).mono ?_; rintro e_ w5 ⟨rfl, hb⟩)
                have hPw5 : Below w4.heap.size w4 w5 := hb
                have hBw5 : Below w.heap.size w w5 := below_step hBw4 hPw5
                replace HM := Lib.hid (HM.out.below hPw5)
                replace HML := Lib.hid (HML.out.below hPw5)
                as_aux_lemma =>
                  have HQP2 : Hid (w5.heap[w.heap.size]? = some (.cells #[(.string id), (.int .i64 rv), (.int .i64 1), (.string nd), (.string g), (.int .i64 th), (.slice oo j co), (.slice oq nh cq), (.string ⟨#[]⟩), (.int .i64 0), (.int .i64 0), (.int .i64 0), (.int .i64 0), (.int .i64 0), (.int .i64 a1), (.int .i64 a2), (.int .i64 a3), (.int .i64 t)] 31)) := (hPw5.block _ (block_lt HQP.out)).trans HQP.out
                  have HQM2 : Hid (w5.heap[(w.heap.size + 1)]? = some (.cells #[.slice og m.ng cg, .slice os' m.ns cs'] 35)) := (hPw5.block _ (block_lt HQM.out)).trans HQM.out
                  clear HQP HQM
                  have HQP := HQP2
                  have HQM := HQM2
                  clear HQP2 HQM2
                  clear c0 c1 c2 c3 c4 c5 c6 c7 c8 c9 c10 c11 c12 c13 c14 c15 c16 c17 cf cz d0 d1 df dz
                  clear hb hPw5 hBw4 x0 x1 xf xz HX4
                  have HB5 := Lib.hid hBw5
                  clear hBw5
                  obtain ⟨hg, hde, hth, hro⟩ : m.hasG g = true ∧ (1000 ≤ m.de (m.gi g) ∧ m.de (m.gi g) ≤ 20000) ∧ (1 ≤ th ∧ th ≤ 120) ∧ m.rolled g th = true := ⟨HOK.out.gr, HOK.out.de, HOK.out.thk, HOK.out.ro⟩
                  obtain ⟨D, hD⟩ : ∃ e, m.de (m.gi g) = e := ⟨_, rfl⟩
                  obtain ⟨G, hG⟩ : ∃ e, m.gi g = e := ⟨_, rfl⟩
                  have HD : Hid (m.de G = D) := by rw [hG] at hD; exact hD
                  have hGn : G < m.ng := by rw [← hG]; exact of_decide_eq_true hg
                  have HGS : Hid (((m.nm G).toList == g.toList) = true ∧ ∀ i, i < G → ((m.nm i).toList == g.toList) = false) := by
                    obtain ⟨s1, s2, s3, s4⟩ := firstFrom_spec (fun i => (m.nm i).toList == g.toList) m.ng 0
                    rw [show firstFrom (fun i => (m.nm i).toList == g.toList) m.ng 0 = G from hG] at s1 s2 s3 s4
                    exact ⟨s3 (by omega), fun i hi => s4 i (by omega) hi⟩
                  rw [hD] at hde
                  have HDD := Lib.hid hD
                  clear hG hD
                  obtain ⟨c0, c1, c2, c3, c4, c5, c6, c7, c8, c9, c10, c11, c12, c13, c14, c15, c16, c17, cf, cz⟩ := cells_at18 HQP.out
                  obtain ⟨d0, d1, df, dz⟩ := cells_at2 HQM.out
                  go_wp2
                  go_loopw [11, 12] (fun d i wr => ∃ q : Nat, q ≤ m.ng ∧ i = .int .i64 q ∧ d = .int .i64 (if G < q then D else 0) ∧ Below w5.heap.size w5 wr) (fun d i _ => m.ng - (intOf i).toNat)
                  case atStart => exact ⟨0, by omega, rfl, by rw [if_neg (by omega)], Below.refl _ _⟩
                  case round =>
                    clear c0 c1 c2 c3 c4 c5 c6 c7 c8 c9 c10 c11 c12 c13 c14 c15 c16 c17 cf cz d0 d1 df dz
                    obtain ⟨w6, rfl⟩ : ∃ x : World, x = wr := ⟨_, rfl⟩
                    obtain ⟨q, hq, rfl, rfl, hPw6⟩ := hrel
                    have hBw6 : Below w.heap.size w w6 := below_step HB5.out hPw6
                    replace HM := Lib.hid (HM.out.below hPw6)
                    replace HML := Lib.hid (HML.out.below hPw6)
                    have HQP2 : Hid (w6.heap[w.heap.size]? = some (.cells #[(.string id), (.int .i64 rv), (.int .i64 1), (.string nd), (.string g), (.int .i64 th), (.slice oo j co), (.slice oq nh cq), (.string ⟨#[]⟩), (.int .i64 0), (.int .i64 0), (.int .i64 0), (.int .i64 0), (.int .i64 0), (.int .i64 a1), (.int .i64 a2), (.int .i64 a3), (.int .i64 t)] 31)) := (hPw6.block _ (block_lt HQP.out)).trans HQP.out
                    have HQM2 : Hid (w6.heap[(w.heap.size + 1)]? = some (.cells #[.slice og m.ng cg, .slice os' m.ns cs'] 35)) := (hPw6.block _ (block_lt HQM.out)).trans HQM.out
                    clear HQP HQM
                    have HQP := HQP2
                    have HQM := HQM2
                    clear HQP2 HQM2
                    have HP56 := Lib.hid hPw6
                    have HB6 := Lib.hid hBw6
                    clear hPw6
                    by_cases hqn : q < m.ng
                    · as_aux_lemma =>
                        obtain ⟨b1, f1, rfl, hbl1, hcl1⟩ := HEG.out q hqn
                        have p0 : w6.cell? ⟨b1, f1 + q * 4, none⟩ = some (.string (m.nm q)) := (hBw6.cell (p := ⟨_, _, none⟩) hbl1).trans (hcl1 q hqn).1
                        have p1 : w6.cell? ⟨b1, f1 + q * 4 + 1, none⟩ = some (.int .i64 (m.de q)) := (hBw6.cell (p := ⟨_, _, none⟩) hbl1).trans (hcl1 q hqn).2.1
                        have hbr : b1 < w6.heap.size := by have := hBw6.size; omega
                        have i0 : (0 : Int) ≤ (q : Int) := by omega
                        have i1 : (q : Int) < (m.ng : Int) := by omega
                        have i2 : q < m.ng := hqn
                        clear hcl1 hBw6
                        by_cases hGq : G < q
                        · rw [if_pos hGq]
                          have kd0 : (D == 0) = false := by simp; omega
                          as_aux_lemma =>
                            obtain ⟨c0, c1, c2, c3, c4, c5, c6, c7, c8, c9, c10, c11, c12, c13, c14, c15, c16, c17, cf, cz⟩ := cells_at18 HQP.out
                            obtain ⟨d0, d1, df, dz⟩ := cells_at2 HQM.out
                            go_wp2_with fail
                            refine wp_region_relw 13 (by kernel_rfl) (by kernel_rfl) (by kernel_rfl) ?_
                            simp only [List.take_succ_cons, List.take_zero, fillL, Act.put, List.setIfInBounds_toArray, List.set_cons_zero, List.set_cons_succ]
                            iterate 13
                              apply rel_is
                              · intro u wx hb hd
                                have hz := hb.size
                                (try simp only [World.size_alloc, World.size_setCell] at hz)
                                have hz0 : w.heap.size < wx.heap.size := by omega
                                have hz1 : w.heap.size + 1 < wx.heap.size := by omega
                                have hz2 : b1 < wx.heap.size := by omega
                                obtain ⟨hc, hf⟩ := bcell hb
                                have HBX := Lib.hid hb
                                clear hb hz
                                simp [depsS, Region.binds, updS, Stay.is, Stay.any] at hd
                                go_simp
                                first | exact ⟨Below.refl _ _, rfl⟩ | rfl
                            intro u w7 hb hE
                            have e0 : u 0 = _ := endS_get hE 0 (by decide)
                            have e1 : u 1 = _ := endS_get hE 1 (by decide)
                            have e2 : u 2 = _ := endS_get hE 2 (by decide)
                            have e3 : u 3 = _ := endS_get hE 3 (by decide)
                            have e4 : u 4 = _ := endS_get hE 4 (by decide)
                            have e5 : u 5 = _ := endS_get hE 5 (by decide)
                            have e6 : u 6 = _ := endS_get hE 6 (by decide)
                            have e7 : u 7 = _ := endS_get hE 7 (by decide)
                            have e8 : u 8 = _ := endS_get hE 8 (by decide)
                            have e9 : u 9 = _ := endS_get hE 9 (by decide)
                            have e10 : u 10 = _ := endS_get hE 10 (by decide)
                            have e11 : u 11 = _ := endS_get hE 11 (by decide)
                            have e12 : u 12 = _ := endS_get hE 12 (by decide)
                            simp only [List.drop_succ_cons, List.drop_zero, List.take_succ_cons, List.take_zero, fillL, Act.put, List.setIfInBounds_toArray, List.set_cons_zero, List.set_cons_succ, e0, e1, e2, e3, e4, e5, e6, e7, e8, e9, e10, e11, e12]
                            clear e0 e1 e2 e3 e4 e5 e6 e7 e8 e9 e10 e11 e12 hE
                            have HBw7 := Lib.hid (below_step (w := w6) (by first | assumption | go_grown) hb)
                            have HBXw7 := Lib.hid hb
                            have hzw7 := hb.size
                            (try simp only [World.size_alloc, World.size_setCell] at hzw7)
                            have hzw70 : w.heap.size < w7.heap.size := by omega
                            have hzw71 : w.heap.size + 1 < w7.heap.size := by omega
                            have hzw72 : b1 < w7.heap.size := by omega
                            obtain ⟨hcw7, hfw7⟩ := bcell hb
                            clear hb hzw7
                            have hPw7 := HBXw7.out
                            replace HM := Lib.hid (HM.out.below hPw7)
                            replace HML := Lib.hid (HML.out.below hPw7)
                            have HQP2 : Hid (w7.heap[w.heap.size]? = some (.cells #[(.string id), (.int .i64 rv), (.int .i64 1), (.string nd), (.string g), (.int .i64 th), (.slice oo j co), (.slice oq nh cq), (.string ⟨#[]⟩), (.int .i64 0), (.int .i64 0), (.int .i64 0), (.int .i64 0), (.int .i64 0), (.int .i64 a1), (.int .i64 a2), (.int .i64 a3), (.int .i64 t)] 31)) := (hPw7.block _ (block_lt HQP.out)).trans HQP.out
                            have HQM2 : Hid (w7.heap[(w.heap.size + 1)]? = some (.cells #[.slice (some ⟨b1, f1, none⟩) m.ng cg, .slice os' m.ns cs'] 35)) := (hPw7.block _ (block_lt HQM.out)).trans HQM.out
                            clear HQP HQM
                            have HQP := HQP2
                            have HQM := HQM2
                            clear HQP2 HQM2
                            have p1w7 : w7.cell? ⟨b1, f1 + q * 4 + 1, none⟩ = some (.int .i64 (m.de q)) := (hPw7.cell (p := ⟨_, _, none⟩) hbr).trans p1
                            have HB57 := Lib.hid (below_step HP56.out hPw7)
                            have hbr7 : b1 < w7.heap.size := by have := hPw7.size; omega
                            clear c0 c1 c2 c3 c4 c5 c6 c7 c8 c9 c10 c11 c12 c13 c14 c15 c16 c17 cf cz d0 d1 df dz
                            clear p0 p1 hPw7
                            (try clear hcw7 hfw7)
                            obtain ⟨c0, c1, c2, c3, c4, c5, c6, c7, c8, c9, c10, c11, c12, c13, c14, c15, c16, c17, cf, cz⟩ := cells_at18 HQP.out
                            obtain ⟨d0, d1, df, dz⟩ := cells_at2 HQM.out
                            have hval : Hid ((if G < q + 1 then D else 0) = D) := by
                              show _ = _
                              rw [if_pos (by omega)]
                            go_wp2
                            go_roundw
                            case rel => exact ⟨q + 1, by omega, by go_num, by rw [hval.out], HB57.out⟩
                            case measure => simp [intOf]; omega
                        rw [if_neg hGq]
                        by_cases hGe : q = G
                        · have kn : ((m.nm q).toList == g.toList) = true := by rw [hGe]; exact HGS.out.1
                          have HDq : Hid (m.de q = D) := by rw [hGe]; exact HD.out
                          have HGe := Lib.hid hGe
                          clear hGe
                          as_aux_lemma =>
                            obtain ⟨c0, c1, c2, c3, c4, c5, c6, c7, c8, c9, c10, c11, c12, c13, c14, c15, c16, c17, cf, cz⟩ := cells_at18 HQP.out
                            obtain ⟨d0, d1, df, dz⟩ := cells_at2 HQM.out
                            go_wp2_with fail
                            refine wp_region_relw 13 (by kernel_rfl) (by kernel_rfl) (by kernel_rfl) ?_
                            simp only [List.take_succ_cons, List.take_zero, fillL, Act.put, List.setIfInBounds_toArray, List.set_cons_zero, List.set_cons_succ]
                            iterate 13
                              apply rel_is
                              · intro u wx hb hd
                                have hz := hb.size
                                (try simp only [World.size_alloc, World.size_setCell] at hz)
                                have hz0 : w.heap.size < wx.heap.size := by omega
                                have hz1 : w.heap.size + 1 < wx.heap.size := by omega
                                have hz2 : b1 < wx.heap.size := by omega
                                obtain ⟨hc, hf⟩ := bcell hb
                                have HBX := Lib.hid hb
                                clear hb hz
                                simp [depsS, Region.binds, updS, Stay.is, Stay.any] at hd
                                go_simp
                                first | exact ⟨Below.refl _ _, rfl⟩ | rfl
                            intro u w7 hb hE
                            have e0 : u 0 = _ := endS_get hE 0 (by decide)
                            have e1 : u 1 = _ := endS_get hE 1 (by decide)
                            have e2 : u 2 = _ := endS_get hE 2 (by decide)
                            have e3 : u 3 = _ := endS_get hE 3 (by decide)
                            have e4 : u 4 = _ := endS_get hE 4 (by decide)
                            have e5 : u 5 = _ := endS_get hE 5 (by decide)
                            have e6 : u 6 = _ := endS_get hE 6 (by decide)
                            have e7 : u 7 = _ := endS_get hE 7 (by decide)
                            have e8 : u 8 = _ := endS_get hE 8 (by decide)
                            have e9 : u 9 = _ := endS_get hE 9 (by decide)
                            have e10 : u 10 = _ := endS_get hE 10 (by decide)
                            have e11 : u 11 = _ := endS_get hE 11 (by decide)
                            have e12 : u 12 = _ := endS_get hE 12 (by decide)
                            simp only [List.drop_succ_cons, List.drop_zero, List.take_succ_cons, List.take_zero, fillL, Act.put, List.setIfInBounds_toArray, List.set_cons_zero, List.set_cons_succ, e0, e1, e2, e3, e4, e5, e6, e7, e8, e9, e10, e11, e12]
                            clear e0 e1 e2 e3 e4 e5 e6 e7 e8 e9 e10 e11 e12 hE
                            have HBw7 := Lib.hid (below_step (w := w6) (by first | assumption | go_grown) hb)
                            have HBXw7 := Lib.hid hb
                            have hzw7 := hb.size
                            (try simp only [World.size_alloc, World.size_setCell] at hzw7)
                            have hzw70 : w.heap.size < w7.heap.size := by omega
                            have hzw71 : w.heap.size + 1 < w7.heap.size := by omega
                            have hzw72 : b1 < w7.heap.size := by omega
                            obtain ⟨hcw7, hfw7⟩ := bcell hb
                            clear hb hzw7
                            have hPw7 := HBXw7.out
                            replace HM := Lib.hid (HM.out.below hPw7)
                            replace HML := Lib.hid (HML.out.below hPw7)
                            have HQP2 : Hid (w7.heap[w.heap.size]? = some (.cells #[(.string id), (.int .i64 rv), (.int .i64 1), (.string nd), (.string g), (.int .i64 th), (.slice oo j co), (.slice oq nh cq), (.string ⟨#[]⟩), (.int .i64 0), (.int .i64 0), (.int .i64 0), (.int .i64 0), (.int .i64 0), (.int .i64 a1), (.int .i64 a2), (.int .i64 a3), (.int .i64 t)] 31)) := (hPw7.block _ (block_lt HQP.out)).trans HQP.out
                            have HQM2 : Hid (w7.heap[(w.heap.size + 1)]? = some (.cells #[.slice (some ⟨b1, f1, none⟩) m.ng cg, .slice os' m.ns cs'] 35)) := (hPw7.block _ (block_lt HQM.out)).trans HQM.out
                            clear HQP HQM
                            have HQP := HQP2
                            have HQM := HQM2
                            clear HQP2 HQM2
                            have p1w7 : w7.cell? ⟨b1, f1 + q * 4 + 1, none⟩ = some (.int .i64 (m.de q)) := (hPw7.cell (p := ⟨_, _, none⟩) hbr).trans p1
                            have HB57 := Lib.hid (below_step HP56.out hPw7)
                            have hbr7 : b1 < w7.heap.size := by have := hPw7.size; omega
                            clear c0 c1 c2 c3 c4 c5 c6 c7 c8 c9 c10 c11 c12 c13 c14 c15 c16 c17 cf cz d0 d1 df dz
                            clear p0 p1 hPw7
                            (try clear hcw7 hfw7)
                            obtain ⟨c0, c1, c2, c3, c4, c5, c6, c7, c8, c9, c10, c11, c12, c13, c14, c15, c16, c17, cf, cz⟩ := cells_at18 HQP.out
                            obtain ⟨d0, d1, df, dz⟩ := cells_at2 HQM.out
                            rw [HDq.out] at p1w7
                            have hval : Hid ((if G < q + 1 then D else 0) = D) := by
                              show _ = _
                              rw [if_pos (by have := HGe.out; omega)]
                            go_wp2
                            go_roundw
                            case rel => exact ⟨q + 1, by omega, by go_num, by rw [hval.out], HB57.out⟩
                            case measure => simp [intOf]; omega
                        · have kn : ((m.nm q).toList == g.toList) = false := HGS.out.2 q (by omega)
                          as_aux_lemma =>
                            obtain ⟨c0, c1, c2, c3, c4, c5, c6, c7, c8, c9, c10, c11, c12, c13, c14, c15, c16, c17, cf, cz⟩ := cells_at18 HQP.out
                            obtain ⟨d0, d1, df, dz⟩ := cells_at2 HQM.out
                            go_wp2_with fail
                            refine wp_region_relw 13 (by kernel_rfl) (by kernel_rfl) (by kernel_rfl) ?_
                            simp only [List.take_succ_cons, List.take_zero, fillL, Act.put, List.setIfInBounds_toArray, List.set_cons_zero, List.set_cons_succ]
                            iterate 13
                              apply rel_is
                              · intro u wx hb hd
                                have hz := hb.size
                                (try simp only [World.size_alloc, World.size_setCell] at hz)
                                have hz0 : w.heap.size < wx.heap.size := by omega
                                have hz1 : w.heap.size + 1 < wx.heap.size := by omega
                                have hz2 : b1 < wx.heap.size := by omega
                                obtain ⟨hc, hf⟩ := bcell hb
                                have HBX := Lib.hid hb
                                clear hb hz
                                simp [depsS, Region.binds, updS, Stay.is, Stay.any] at hd
                                go_simp
                                first | exact ⟨Below.refl _ _, rfl⟩ | rfl
                            intro u w7 hb hE
                            have e0 : u 0 = _ := endS_get hE 0 (by decide)
                            have e1 : u 1 = _ := endS_get hE 1 (by decide)
                            have e2 : u 2 = _ := endS_get hE 2 (by decide)
                            have e3 : u 3 = _ := endS_get hE 3 (by decide)
                            have e4 : u 4 = _ := endS_get hE 4 (by decide)
                            have e5 : u 5 = _ := endS_get hE 5 (by decide)
                            have e6 : u 6 = _ := endS_get hE 6 (by decide)
                            have e7 : u 7 = _ := endS_get hE 7 (by decide)
                            have e8 : u 8 = _ := endS_get hE 8 (by decide)
                            have e9 : u 9 = _ := endS_get hE 9 (by decide)
                            have e10 : u 10 = _ := endS_get hE 10 (by decide)
                            have e11 : u 11 = _ := endS_get hE 11 (by decide)
                            have e12 : u 12 = _ := endS_get hE 12 (by decide)
                            simp only [List.drop_succ_cons, List.drop_zero, List.take_succ_cons, List.take_zero, fillL, Act.put, List.setIfInBounds_toArray, List.set_cons_zero, List.set_cons_succ, e0, e1, e2, e3, e4, e5, e6, e7, e8, e9, e10, e11, e12]
                            clear e0 e1 e2 e3 e4 e5 e6 e7 e8 e9 e10 e11 e12 hE
                            have HBw7 := Lib.hid (below_step (w := w6) (by first | assumption | go_grown) hb)
                            have HBXw7 := Lib.hid hb
                            have hzw7 := hb.size
                            (try simp only [World.size_alloc, World.size_setCell] at hzw7)
                            have hzw70 : w.heap.size < w7.heap.size := by omega
                            have hzw71 : w.heap.size + 1 < w7.heap.size := by omega
                            have hzw72 : b1 < w7.heap.size := by omega
                            obtain ⟨hcw7, hfw7⟩ := bcell hb
                            clear hb hzw7
                            have hPw7 := HBXw7.out
                            replace HM := Lib.hid (HM.out.below hPw7)
                            replace HML := Lib.hid (HML.out.below hPw7)
                            have HQP2 : Hid (w7.heap[w.heap.size]? = some (.cells #[(.string id), (.int .i64 rv), (.int .i64 1), (.string nd), (.string g), (.int .i64 th), (.slice oo j co), (.slice oq nh cq), (.string ⟨#[]⟩), (.int .i64 0), (.int .i64 0), (.int .i64 0), (.int .i64 0), (.int .i64 0), (.int .i64 a1), (.int .i64 a2), (.int .i64 a3), (.int .i64 t)] 31)) := (hPw7.block _ (block_lt HQP.out)).trans HQP.out
                            have HQM2 : Hid (w7.heap[(w.heap.size + 1)]? = some (.cells #[.slice (some ⟨b1, f1, none⟩) m.ng cg, .slice os' m.ns cs'] 35)) := (hPw7.block _ (block_lt HQM.out)).trans HQM.out
                            clear HQP HQM
                            have HQP := HQP2
                            have HQM := HQM2
                            clear HQP2 HQM2
                            have p1w7 : w7.cell? ⟨b1, f1 + q * 4 + 1, none⟩ = some (.int .i64 (m.de q)) := (hPw7.cell (p := ⟨_, _, none⟩) hbr).trans p1
                            have HB57 := Lib.hid (below_step HP56.out hPw7)
                            have hbr7 : b1 < w7.heap.size := by have := hPw7.size; omega
                            clear c0 c1 c2 c3 c4 c5 c6 c7 c8 c9 c10 c11 c12 c13 c14 c15 c16 c17 cf cz d0 d1 df dz
                            clear p0 p1 hPw7
                            (try clear hcw7 hfw7)
                            obtain ⟨c0, c1, c2, c3, c4, c5, c6, c7, c8, c9, c10, c11, c12, c13, c14, c15, c16, c17, cf, cz⟩ := cells_at18 HQP.out
                            obtain ⟨d0, d1, df, dz⟩ := cells_at2 HQM.out
                            have hval : Hid ((if G < q + 1 then D else 0) = 0) := by
                              show _ = _
                              rw [if_neg (by omega)]
                            go_wp2
                            go_roundw
                            case rel => exact ⟨q + 1, by omega, by go_num, by rw [hval.out], HB57.out⟩
                            case measure => simp [intOf]; omega
                    · as_aux_lemma =>
                        obtain rfl : q = m.ng := by omega
                        rw [if_pos hGn]
                        have hpr := hav
                        have hb1 : 0 ≤ AV * th ∧ AV * th ≤ 131941395333120 := by
                          refine ⟨Int.mul_nonneg (by omega) (by omega), ?_⟩
                          have h1 := Int.mul_le_mul_of_nonneg_right hpr.2 (show 0 ≤ th by omega)
                          have h2 := Int.mul_le_mul_of_nonneg_left hth.2 (show (0 : Int) ≤ 1099511627776 by decide)
                          omega
                        obtain ⟨RN, hRN⟩ : ∃ e, AV * th = e := ⟨_, rfl⟩
                        rw [hRN] at hb1
                        have w1' : IntKind.i64.wrap (AV * th) = RN := by rw [hRN]; exact IntWalk.i64_in _ (by omega)
                        have hb2 : 0 ≤ RN * D ∧ RN * D ≤ 2638827906662400000 := by
                          refine ⟨Int.mul_nonneg (by omega) (by omega), ?_⟩
                          have h1 := Int.mul_le_mul_of_nonneg_right hb1.2 (show 0 ≤ D by omega)
                          have h2 := Int.mul_le_mul_of_nonneg_left hde.2 (show (0 : Int) ≤ 131941395333120 by decide)
                          omega
                        obtain ⟨RD, hRD⟩ : ∃ e, RN * D = e := ⟨_, rfl⟩
                        rw [hRD] at hb2
                        have w2' : IntKind.i64.wrap (RN * D) = RD := by rw [hRD]; exact IntWalk.i64_in _ (by omega)
                        obtain ⟨MV, hMV⟩ : ∃ e, RD.tdiv 2000000 = e := ⟨_, rfl⟩
                        have hb3 : 0 ≤ MV ∧ MV ≤ 2638827906662400000 := by
                          rw [← hMV, Int.tdiv_eq_ediv_of_nonneg hb2.1]
                          omega
                        have w3' : IntKind.i64.wrap (RD.tdiv 2000000) = MV := by rw [hMV]; exact IntWalk.i64_in _ (by omega)
                        have HMS : Hid (∀ W v', MatAt W v' m gv → MaxLenIs W → PtsAt W (.slice oo j co) j P → HolesAt W (.slice oq nh cq) nh oh ch hn H → Calls Tryd.prog 7 #[.agg #[(.string id), (.int .i64 rv), (.int .i64 1), (.string nd), (.string g), (.int .i64 th), (.slice oo j co), (.slice oq nh cq), (.string ⟨#[]⟩), (.int .i64 0), (.int .i64 0), (.int .i64 0), (.int .i64 0), (.int .i64 0), (.int .i64 a1), (.int .i64 a2), (.int .i64 a3), (.int .i64 t)], v'] W fun e w' => e = .returned (.tuple #[.int .i64 MV, .int .i64 0]) ∧ Below W.heap.size W w') := fun W v' h1 h2 h3 h4 => by
                          have t := mass1 v' m gv id nd g rv th a1 a2 a3 t oo oq j co nh cq P oh ch hn H W h1 hg (by rw [HDD.out]; exact hde) hth hro h3 h4 HRG HOK.out.ok1 HOK.out.ok2 HOK.out.rev HOK.out.va hsi hsn h2
                          rw [HAV.out, HDD.out, hRN, hRD, hMV] at t
                          exact t
                        clear hRN hRD hMV hb1 hb2 hb3 hpr
                        obtain ⟨c0, c1, c2, c3, c4, c5, c6, c7, c8, c9, c10, c11, c12, c13, c14, c15, c16, c17, cf, cz⟩ := cells_at18 HQP.out
                        obtain ⟨d0, d1, df, dz⟩ := cells_at2 HQM.out
                        go_wp2_with (with_reducible refine wpList_load_all 31 w.heap.size 18 #[(.string id), (.int .i64 rv), (.int .i64 1), (.string nd), (.string g), (.int .i64 th), (.slice oo j co), (.slice oq nh cq), (.string ⟨#[]⟩), (.int .i64 0), (.int .i64 0), (.int .i64 0), (.int .i64 0), (.int .i64 0), (.int .i64 a1), (.int .i64 a2), (.int .i64 a3), (.int .i64 t)] 31 _ part_under part_size rfl rfl HQP.out ?_)
                        (go_at_call 7; refine (HMS.out _ _ (HM.out.below (by first | exact Below.refl _ _ | (show Below w6.heap.size w6 _; go_grown))) (HML.out.below (by first | exact Below.refl _ _ | (show Below w6.heap.size w6 _; go_grown))) (HP.out.below HB6.out) (HHS.out.below HB6.out)).mono ?_; rintro e_ w8 ⟨rfl, hb⟩)
                        have hPw8 : Below w6.heap.size w6 w8 := below_step (w := w6) (by first | exact Below.refl _ _ | go_grown) hb
                        have HB8 := Lib.hid (below_step HB6.out hPw8)
                        have HQP2 : Hid (w8.heap[w.heap.size]? = some (.cells #[(.string id), (.int .i64 rv), (.int .i64 1), (.string nd), (.string g), (.int .i64 th), (.slice oo j co), (.slice oq nh cq), (.string ⟨#[]⟩), (.int .i64 0), (.int .i64 0), (.int .i64 0), (.int .i64 0), (.int .i64 0), (.int .i64 a1), (.int .i64 a2), (.int .i64 a3), (.int .i64 t)] 31)) := (hPw8.block _ (block_lt HQP.out)).trans HQP.out
                        have HQM2 : Hid (w8.heap[(w.heap.size + 1)]? = some (.cells #[.slice og m.ng cg, .slice os' m.ns cs'] 35)) := (hPw8.block _ (block_lt HQM.out)).trans HQM.out
                        clear HQP HQM
                        have HQP := HQP2
                        have HQM := HQM2
                        clear HQP2 HQM2
                        clear c0 c1 c2 c3 c4 c5 c6 c7 c8 c9 c10 c11 c12 c13 c14 c15 c16 c17 cf cz d0 d1 df dz
                        clear hb hPw8
                        obtain ⟨c0, c1, c2, c3, c4, c5, c6, c7, c8, c9, c10, c11, c12, c13, c14, c15, c16, c17, cf, cz⟩ := cells_at18 HQP.out
                        obtain ⟨d0, d1, df, dz⟩ := cells_at2 HQM.out
                        go_wp2
                        go_returns
                        exact ⟨rfl, HB8.out⟩
end Go.Proofs.YtgbhhjdmochhpaaDoor
namespace Go.Proofs.YtgbhhjdmochhpaaDoor
open Go Go.ChangeShapes Go.WideShapes Go.RowKit Go.ChangeAt Go.Deep
set_option linter.unusedVariables false
set_option linter.unusedSimpArgs false
theorem bulk_one {H : Type} (d : DataW H) : 1 ≤ Rows.uptoBulk d := by
  cases d with
  | lit l => cases l <;> simp [Rows.uptoBulk]
  | nil => simp [Rows.uptoBulk]
  | ptr d => simp [Rows.uptoBulk]
  | slice elems spare => simp [Rows.uptoBulk]
  | agg parts => simp [Rows.uptoBulk]
  | iface t d => simp [Rows.uptoBulk]
  | map entries => simp [Rows.uptoBulk]
  | held h => simp [Rows.uptoBulk]
theorem bulk_part {H : Type} {d : DataW H} {l : List (DataW H)} (h : d ∈ l) : Rows.uptoBulk d ≤ Rows.uptoBulkAll l := by
  induction l with
  | nil => cases h
  | cons x r ih =>
    simp only [Rows.uptoBulkAll]
    cases List.mem_cons.1 h with
    | inl e => subst e; omega
    | inr e => have := ih e; omega
theorem bulk_len {H : Type} (l : List (DataW H)) : l.length ≤ Rows.uptoBulkAll l := by
  induction l with
  | nil => simp [Rows.uptoBulkAll]
  | cons x r ih => have := bulk_one x; simp only [Rows.uptoBulkAll, List.length_cons]; omega
theorem bulk_agg {H : Type} {d : DataW H} {l : List (DataW H)} (h : d ∈ l) : Rows.uptoBulk d ≤ Rows.uptoBulk (.agg l) := by
  have := bulk_part h
  simp only [Rows.uptoBulk]
  omega
theorem bulk_elem {H : Type} {d : DataW H} {l r : List (DataW H)} (h : d ∈ l) : Rows.uptoBulk d ≤ Rows.uptoBulk (.slice l r) := by
  have := bulk_part h
  simp only [Rows.uptoBulk]
  omega
theorem bulk_slice {H : Type} (l r : List (DataW H)) : l.length ≤ Rows.uptoBulk (.slice l r) := by
  have := bulk_len l
  simp only [Rows.uptoBulk]
  omega
section
variable {H : Type} {enc : TypeId × Value → H} {W : World}
/-- a slice's length is at most its reading's bulk -/
theorem slice_bulk {t e : TypeId} {fuel : Nat} {o : Option Addr} {n c : Nat} {x : DataW H × List MemPlace} (ht : Tryd.prog.underlying t = some (.slice e)) (h : DataW.trod enc Tryd.prog W 0 (fun _ => true) true fuel t [.slice o n c] = some x) : n ≤ Rows.uptoBulk x.1 := by
  rcases open_slice ht h with ⟨e, _⟩ | ⟨a, len, cap, m, k, D, Pl, hcs, _, hl, hm, hmm, hx, hi⟩
  · simp only [List.cons.injEq, Value.slice.injEq] at e
    omega
  · simp only [List.cons.injEq, Value.slice.injEq] at hcs
    rw [hx]
    show n ≤ Rows.uptoBulk (DataW.slice ((List.range len).map D) ((List.range (m - len)).map fun j => D (len + j)))
    have := bulk_slice ((List.range len).map D) ((List.range (m - len)).map fun j => D (len + j))
    simp only [List.length_map, List.length_range] at this
    omega
set_option maxRecDepth 100000 in
theorem gauges_bulk {fuel : Nat} {a : Addr} {n c : Nat} {x : DataW H × List MemPlace} (h : DataW.trod enc Tryd.prog W 0 (fun _ => true) true fuel 32 [.slice (some a) n c] = some x) {i : Nat} (hi : i < n) {o : Option Addr} {k d : Nat} (hc : W.cell? (a.add (i * 4 + 3)) = some (.slice o k d)) : k ≤ Rows.uptoBulk x.1 := by
  rcases open_slice (e := 46) (by kernel_rfl) h with ⟨e, _⟩ | ⟨a', len, cap, m, f, D, Pl, hcs, _, hl, hm, hmm, hx, hel⟩
  · simp at e
  · simp only [List.cons.injEq, Value.slice.injEq, Option.some.injEq] at hcs
    obtain ⟨⟨rfl, rfl, rfl⟩, -⟩ := hcs
    have hmn : i < m := by rw [hmm]; split <;> omega
    obtain ⟨cs, h1, h2⟩ := hel i hmn
    rw [show Tryd.prog.cellsOf 46 = 4 by kernel_rfl] at h1
    obtain ⟨_, hlen, hat⟩ := World.cells?_some h1
    match cs, hlen, hat, h2 with
    | [c0, c1, c2, c3], _, hat, h2 =>
      obtain ⟨xs, q, _, hx2, hlen2, hxl, hfs⟩ := DataW.trod_struct (fs := Tryd.prog.fieldsOf 46) (by kernel_rfl) h2
      have h0 := hfs 3 ((Tryd.prog.fieldsOf 46)[3]!) (by kernel_rfl)
      rw [show (Tryd.prog.fieldsOf 46)[3]!.type = 44 by kernel_rfl, show (Tryd.prog.fieldsOf 46)[3]!.offset = 3 by kernel_rfl, show Tryd.prog.cellsOf 44 = 1 by kernel_rfl] at h0
      have hsz : (Tryd.prog.fieldsOf 46).size = 4 := by kernel_rfl
      rw [hsz] at hxl
      have e3 := hat 3 (by omega)
      rw [add_add] at e3
      rw [hc] at e3
      have e4 : c3 = .slice o k d := by simpa using e3.symm
      subst e4
      match xs, hxl, hx2, h0 with
      | [x0, x1, x2, x3], _, hx2, h0 =>
        have h0' : DataW.trod enc Tryd.prog W 0 (fun _ => true) true q 44 [.slice o k d] = some x3 := h0
        have b1 := slice_bulk (t := 44) (e := 3) (by kernel_rfl) h0'
        have hd : D i = DataW.agg [x0.1, x1.1, x2.1, x3.1] := by simpa using congrArg Prod.fst hx2
        have b2 : Rows.uptoBulk x3.1 ≤ Rows.uptoBulk (D i) := by rw [hd]; exact bulk_agg (by simp)
        have b3 : Rows.uptoBulk (D i) ≤ Rows.uptoBulk x.1 := by
          rw [hx]
          exact bulk_elem (List.mem_map.2 ⟨i, by simpa using hi, rfl⟩)
        omega
set_option maxRecDepth 100000 in
theorem mat_bulk {og os : Option Addr} {ng cg ns cs : Nat} {d : DataW H} {ps : List MemPlace} (h : DataW.Trod enc Tryd.prog W 0 (fun _ => true) true 35 (.agg #[.slice og ng cg, .slice os ns cs]) d ps) :
    ng ≤ Rows.uptoBulk d ∧ ns ≤ Rows.uptoBulk d ∧ ∀ a, og = some a → ∀ i, i < ng → ∀ o k c, W.cell? (a.add (i * 4 + 3)) = some (.slice o k c) → k ≤ Rows.uptoBulk d := by
  obtain ⟨fuel, hf⟩ := h
  obtain ⟨xs, m, _, hx, hlen, hxl, hfs⟩ := DataW.trod_struct (fs := Tryd.prog.fieldsOf 35) (by kernel_rfl) hf
  have h0 := hfs 0 ((Tryd.prog.fieldsOf 35)[0]!) (by kernel_rfl)
  have h1 := hfs 1 ((Tryd.prog.fieldsOf 35)[1]!) (by kernel_rfl)
  rw [show (Tryd.prog.fieldsOf 35)[0]!.type = 32 by kernel_rfl, show (Tryd.prog.fieldsOf 35)[0]!.offset = 0 by kernel_rfl, show Tryd.prog.cellsOf 32 = 1 by kernel_rfl] at h0
  rw [show (Tryd.prog.fieldsOf 35)[1]!.type = 33 by kernel_rfl, show (Tryd.prog.fieldsOf 35)[1]!.offset = 1 by kernel_rfl, show Tryd.prog.cellsOf 33 = 1 by kernel_rfl] at h1
  have hsz : (Tryd.prog.fieldsOf 35).size = 2 := by kernel_rfl
  rw [hsz] at hxl
  match xs, hxl, hx, h0, h1 with
  | [x0, x1], _, hx, h0, h1 =>
    have h0' : DataW.trod enc Tryd.prog W 0 (fun _ => true) true m 32 [.slice og ng cg] = some x0 := h0
    have h1' : DataW.trod enc Tryd.prog W 0 (fun _ => true) true m 33 [.slice os ns cs] = some x1 := h1
    have hd : d = DataW.agg [x0.1, x1.1] := by simpa using congrArg Prod.fst hx
    have b0 : Rows.uptoBulk x0.1 ≤ Rows.uptoBulk d := by rw [hd]; exact bulk_agg (by simp)
    have b1 : Rows.uptoBulk x1.1 ≤ Rows.uptoBulk d := by rw [hd]; exact bulk_agg (by simp)
    have g0 := slice_bulk (t := 32) (e := 46) (by kernel_rfl) h0'
    have g1 := slice_bulk (t := 33) (e := 65) (by kernel_rfl) h1'
    refine ⟨by omega, by omega, fun a ha i hi o k c hc => ?_⟩
    subst ha
    have := gauges_bulk h0' hi hc
    omega
end
end Go.Proofs.YtgbhhjdmochhpaaDoor
namespace Go.Proofs.YtgbhhjdmochhpaaDoor
open Go Go.ChangeShapes Go.WideShapes Go.RowKit Go.ChangeAt
set_option linter.unusedSimpArgs false
set_option linter.unusedVariables false
section
variable {H : Type} {enc : TypeId × Value → H} {W : World}
theorem ints_leaf {fuel : Nat} {v : Value} {x : DataW H × List MemPlace} (h : DataW.trod enc Tryd.prog W 0 (fun _ => true) true fuel 44 [v] = some x) : ∃ n f, IntsAt W v n f := by
  rcases leaf_slice (sz := 1) (e := 3) (by kernel_rfl) (by kernel_rfl) h with rfl | ⟨a, len, cap, rfl, hl, hm, hi⟩
  · exact ⟨0, fun _ => 0, intsAt_nil _ _⟩
  · obtain ⟨g, hg⟩ := pick_each (α := Int) (n := len) (p := fun i p => W.cell? (a.add (i * 1 + 0)) = some (.int .i64 p)) (fun i hil => by
      obtain ⟨c0, h0, t0⟩ := hi i hil 0 (by omega)
      obtain ⟨_, _, t0⟩ := t0 8 3 (by kernel_rfl)
      obtain ⟨z0, rfl, _⟩ := leaf_i64 Tryd.underlying3 t0
      exact ⟨z0, h0⟩)
    refine ⟨len, g, sliceAt_of _ hl hm (by decide) fun i hil j hj => ?_⟩
    obtain rfl : j = 0 := by omega
    exact hg i hil
theorem grades_leaf {fuel : Nat} {v : Value} {x : DataW H × List MemPlace} (h : DataW.trod enc Tryd.prog W 0 (fun _ => true) true fuel 32 [v] = some x) :
    ∃ (n : Nat) (nm : Nat → ByteArray) (de yi : Nat → Int) (gv : Nat → Value) (gn : Nat → Nat) (gf : Nat → Nat → Int), SliceAt W v n 4 (fun i j => match j with | 0 => .string (nm i) | 1 => .int .i64 (de i) | 2 => .int .i64 (yi i) | _ => gv i) ∧ ∀ i, i < n → IntsAt W (gv i) (gn i) (gf i) := by
  rcases leaf_slice (sz := 4) (e := 46) (by kernel_rfl) (by kernel_rfl) h with rfl | ⟨a, len, cap, rfl, hl, hm, hi⟩
  · exact ⟨0, fun _ => ⟨#[]⟩, fun _ => 0, fun _ => 0, fun _ => .slice none 0 0, fun _ => 0, fun _ _ => 0, ⟨none, 0, rfl, by omega, by omega, fun h => by omega⟩, fun i hi => by omega⟩
  · obtain ⟨g, hg⟩ := pick_each (α := ByteArray × Int × Int × Value × Nat × (Nat → Int)) (n := len) (p := fun i p => W.cell? (a.add (i * 4 + 0)) = some (.string p.1) ∧ W.cell? (a.add (i * 4 + 1)) = some (.int .i64 p.2.1) ∧ W.cell? (a.add (i * 4 + 2)) = some (.int .i64 p.2.2.1) ∧ W.cell? (a.add (i * 4 + 3)) = some p.2.2.2.1 ∧ IntsAt W p.2.2.2.1 p.2.2.2.2.1 p.2.2.2.2.2) (fun i hil => by
      obtain ⟨c0, h0, t0⟩ := hi i hil 0 (by omega)
      obtain ⟨c1, h1, t1⟩ := hi i hil 1 (by omega)
      obtain ⟨c2, h2, t2⟩ := hi i hil 2 (by omega)
      obtain ⟨c3, h3, t3⟩ := hi i hil 3 (by omega)
      obtain ⟨_, _, t0⟩ := t0 8 9 (by kernel_rfl)
      obtain ⟨_, _, t1⟩ := t1 8 3 (by kernel_rfl)
      obtain ⟨_, _, t2⟩ := t2 8 3 (by kernel_rfl)
      obtain ⟨_, _, t3⟩ := t3 8 44 (by kernel_rfl)
      obtain ⟨z0, rfl, _⟩ := leaf_string Tryd.underlying9 t0
      obtain ⟨z1, rfl, _⟩ := leaf_i64 Tryd.underlying3 t1
      obtain ⟨z2, rfl, _⟩ := leaf_i64 Tryd.underlying3 t2
      obtain ⟨n, f, hp⟩ := ints_leaf t3
      exact ⟨(z0, z1, z2, c3, n, f), h0, h1, h2, h3, hp⟩)
    refine ⟨len, fun i => (g i).1, fun i => (g i).2.1, fun i => (g i).2.2.1, fun i => (g i).2.2.2.1, fun i => (g i).2.2.2.2.1, fun i => (g i).2.2.2.2.2, sliceAt_of _ hl hm (by decide) fun i hil j hj => ?_, fun i hil => (hg i hil).2.2.2.2⟩
    rcases (by omega : j = 0 ∨ j = 1 ∨ j = 2 ∨ j = 3) with rfl | rfl | rfl | rfl
    · exact (hg i hil).1
    · exact (hg i hil).2.1
    · exact (hg i hil).2.2.1
    · exact (hg i hil).2.2.2.1
theorem sections_leaf {fuel : Nat} {v : Value} {x : DataW H × List MemPlace} (h : DataW.trod enc Tryd.prog W 0 (fun _ => true) true fuel 33 [v] = some x) :
    ∃ (n : Nat) (sn : Nat → ByteArray) (sa sh ss : Nat → Int), SliceAt W v n 4 (fun i j => match j with | 0 => .string (sn i) | 1 => .int .i64 (sa i) | 2 => .int .i64 (sh i) | _ => .int .i64 (ss i)) := by
  rcases leaf_slice (sz := 4) (e := 65) (by kernel_rfl) (by kernel_rfl) h with rfl | ⟨a, len, cap, rfl, hl, hm, hi⟩
  · exact ⟨0, fun _ => ⟨#[]⟩, fun _ => 0, fun _ => 0, fun _ => 0, ⟨none, 0, rfl, by omega, by omega, fun h => by omega⟩⟩
  · obtain ⟨g, hg⟩ := pick_each (α := ByteArray × Int × Int × Int) (n := len) (p := fun i p => W.cell? (a.add (i * 4 + 0)) = some (.string p.1) ∧ W.cell? (a.add (i * 4 + 1)) = some (.int .i64 p.2.1) ∧ W.cell? (a.add (i * 4 + 2)) = some (.int .i64 p.2.2.1) ∧ W.cell? (a.add (i * 4 + 3)) = some (.int .i64 p.2.2.2)) (fun i hil => by
      obtain ⟨c0, h0, t0⟩ := hi i hil 0 (by omega)
      obtain ⟨c1, h1, t1⟩ := hi i hil 1 (by omega)
      obtain ⟨c2, h2, t2⟩ := hi i hil 2 (by omega)
      obtain ⟨c3, h3, t3⟩ := hi i hil 3 (by omega)
      obtain ⟨_, _, t0⟩ := t0 8 9 (by kernel_rfl)
      obtain ⟨_, _, t1⟩ := t1 8 3 (by kernel_rfl)
      obtain ⟨_, _, t2⟩ := t2 8 3 (by kernel_rfl)
      obtain ⟨_, _, t3⟩ := t3 8 3 (by kernel_rfl)
      obtain ⟨z0, rfl, _⟩ := leaf_string Tryd.underlying9 t0
      obtain ⟨z1, rfl, _⟩ := leaf_i64 Tryd.underlying3 t1
      obtain ⟨z2, rfl, _⟩ := leaf_i64 Tryd.underlying3 t2
      obtain ⟨z3, rfl, _⟩ := leaf_i64 Tryd.underlying3 t3
      exact ⟨(z0, z1, z2, z3), h0, h1, h2, h3⟩)
    refine ⟨len, fun i => (g i).1, fun i => (g i).2.1, fun i => (g i).2.2.1, fun i => (g i).2.2.2, sliceAt_of _ hl hm (by decide) fun i hil j hj => ?_⟩
    rcases (by omega : j = 0 ∨ j = 1 ∨ j = 2 ∨ j = 3) with rfl | rfl | rfl | rfl
    · exact (hg i hil).1
    · exact (hg i hil).2.1
    · exact (hg i hil).2.2.1
    · exact (hg i hil).2.2.2
set_option maxRecDepth 100000 in
theorem mat_arg {base : Nat} {r : Reach} {v : Value} {d : DataW H} {ps : List MemPlace} (hv : Value.okWide Tryd.prog W r base 35 v) (h : DataW.Trod enc Tryd.prog W 0 (fun _ => true) true 35 v d ps) : ∃ vg vs m gv, v = .agg #[vg, vs] ∧ GrAt W vg m gv ∧ SeAt W vs m := by
  obtain ⟨cs, rfl, hl, hc⟩ := leaf_struct (fs := Tryd.prog.fieldsOf 35) (k := 2) (by kernel_rfl) (by kernel_rfl) hv h
  match cs, hl with
  | [c0, c1], _ =>
    obtain ⟨_, _, t0⟩ := hc 0 c0 rfl 8 32 (by kernel_rfl)
    obtain ⟨_, _, t1⟩ := hc 1 c1 rfl 8 33 (by kernel_rfl)
    obtain ⟨n, nm, de, yi, gv, gn, gf, h0, h1⟩ := grades_leaf t0
    obtain ⟨k, sn, sa, sh, ss, h2⟩ := sections_leaf t1
    exact ⟨c0, c1, ⟨n, nm, de, yi, gn, gf, k, sn, sa, sh, ss⟩, gv, rfl, ⟨h0, h1⟩, h2⟩
theorem pts_leaf {fuel : Nat} {v : Value} {x : DataW H × List MemPlace} (h : DataW.trod enc Tryd.prog W 0 (fun _ => true) true fuel 22 [v] = some x) : ∃ n P, PtsAt W v n P := by
  rcases leaf_slice (sz := 2) (e := 37) (by kernel_rfl) (by kernel_rfl) h with rfl | ⟨a, len, cap, rfl, hl, hm, hi⟩
  · exact ⟨0, fun _ => (0, 0), none, 0, rfl, by omega, by omega, fun h => by omega⟩
  · obtain ⟨g, hg⟩ := pick_each (α := Int × Int) (n := len) (p := fun i p => W.cell? (a.add (i * 2 + 0)) = some (.int .i64 p.1) ∧ W.cell? (a.add (i * 2 + 1)) = some (.int .i64 p.2)) (fun i hil => by
      obtain ⟨c0, h0, t0⟩ := hi i hil 0 (by omega)
      obtain ⟨c1, h1, t1⟩ := hi i hil 1 (by omega)
      obtain ⟨_, _, t0⟩ := t0 8 3 (by kernel_rfl)
      obtain ⟨_, _, t1⟩ := t1 8 3 (by kernel_rfl)
      obtain ⟨z0, rfl, _⟩ := leaf_i64 Tryd.underlying3 t0
      obtain ⟨z1, rfl, _⟩ := leaf_i64 Tryd.underlying3 t1
      exact ⟨(z0, z1), h0, h1⟩)
    refine ⟨len, g, sliceAt_of _ hl hm (by decide) fun i hil j hj => ?_⟩
    rcases (by omega : j = 0 ∨ j = 1) with rfl | rfl
    · exact (hg i hil).1
    · exact (hg i hil).2
theorem holes_leaf {fuel : Nat} {v : Value} {x : DataW H × List MemPlace} (h : DataW.trod enc Tryd.prog W 0 (fun _ => true) true fuel 23 [v] = some x) : ∃ n oh ch hn HH, HolesAt W v n oh ch hn HH := by
  rcases leaf_slice (sz := 1) (e := 22) (by kernel_rfl) (by kernel_rfl) h with rfl | ⟨a, len, cap, rfl, hl, hm, hi⟩
  · exact ⟨0, fun _ => none, fun _ => 0, fun _ => 0, fun _ _ => (0, 0), ⟨none, 0, rfl, by omega, by omega, fun h => by omega⟩, fun i hi => by omega⟩
  · obtain ⟨g, hg⟩ := pick_each (α := Option Addr × Nat × Nat × (Nat → Int × Int)) (n := len) (p := fun i p => W.cell? (a.add (i * 1 + 0)) = some (.slice p.1 p.2.1 p.2.2.1) ∧ PtsAt W (.slice p.1 p.2.1 p.2.2.1) p.2.1 p.2.2.2) (fun i hil => by
      obtain ⟨c0, h0, t0⟩ := hi i hil 0 (by omega)
      obtain ⟨_, _, t0⟩ := t0 8 22 (by kernel_rfl)
      obtain ⟨n, P, hp⟩ := pts_leaf t0
      obtain ⟨oa, c, rfl, -, -, -⟩ := hp.form
      exact ⟨(oa, n, c, P), h0, hp⟩)
    refine ⟨len, fun i => (g i).1, fun i => (g i).2.2.1, fun i => (g i).2.1, fun i => (g i).2.2.2, sliceAt_of _ hl hm (by decide) fun i hil j hj => ?_, fun i hil => (hg i hil).2⟩
    obtain rfl : j = 0 := by omega
    exact (hg i hil).1
set_option maxRecDepth 100000 in
theorem part_arg {base : Nat} {r : Reach} {v : Value} {d : DataW H} {ps : List MemPlace} (hv : Value.okWide Tryd.prog W r base 31 v) (h : DataW.Trod enc Tryd.prog W 0 (fun _ => true) true 31 v d ps) :
    ∃ (id nd g s : ByteArray) (rv kd th ln ma e1 e2 e3 a1 a2 a3 t : Int) (oo oq : Option Addr) (no co nh cq : Nat) (P : Nat → Pt) (oh : Nat → Option Addr) (ch hn : Nat → Nat) (HH : Nat → Nat → Pt), v = .agg #[(.string id), (.int .i64 rv), (.int .i64 kd), (.string nd), (.string g), (.int .i64 th), (.slice oo no co), (.slice oq nh cq), (.string s), (.int .i64 ln), (.int .i64 ma), (.int .i64 e1), (.int .i64 e2), (.int .i64 e3), (.int .i64 a1), (.int .i64 a2), (.int .i64 a3), (.int .i64 t)] ∧ PtsAt W (.slice oo no co) no P ∧ HolesAt W (.slice oq nh cq) nh oh ch hn HH := by
  obtain ⟨cs, rfl, hl, hc⟩ := leaf_struct (fs := Tryd.prog.fieldsOf 31) (k := 18) (by kernel_rfl) (by kernel_rfl) hv h
  match cs, hl with
  | [c0, c1, c2, c3, c4, c5, c6, c7, c8, c9, c10, c11, c12, c13, c14, c15, c16, c17], _ =>
    obtain ⟨_, _, t0⟩ := hc 0 c0 rfl 8 9 (by kernel_rfl)
    obtain ⟨id, rfl, _⟩ := leaf_string Tryd.underlying9 t0
    obtain ⟨_, _, t1⟩ := hc 1 c1 rfl 8 3 (by kernel_rfl)
    obtain ⟨rv, rfl, _⟩ := leaf_i64 Tryd.underlying3 t1
    obtain ⟨_, _, t2⟩ := hc 2 c2 rfl 8 3 (by kernel_rfl)
    obtain ⟨kd, rfl, _⟩ := leaf_i64 Tryd.underlying3 t2
    obtain ⟨_, _, t3⟩ := hc 3 c3 rfl 8 9 (by kernel_rfl)
    obtain ⟨nd, rfl, _⟩ := leaf_string Tryd.underlying9 t3
    obtain ⟨_, _, t4⟩ := hc 4 c4 rfl 8 9 (by kernel_rfl)
    obtain ⟨g, rfl, _⟩ := leaf_string Tryd.underlying9 t4
    obtain ⟨_, _, t5⟩ := hc 5 c5 rfl 8 3 (by kernel_rfl)
    obtain ⟨th, rfl, _⟩ := leaf_i64 Tryd.underlying3 t5
    obtain ⟨_, _, t6⟩ := hc 6 c6 rfl 8 22 (by kernel_rfl)
    obtain ⟨_, _, t7⟩ := hc 7 c7 rfl 8 23 (by kernel_rfl)
    obtain ⟨_, _, t8⟩ := hc 8 c8 rfl 8 9 (by kernel_rfl)
    obtain ⟨s, rfl, _⟩ := leaf_string Tryd.underlying9 t8
    obtain ⟨_, _, t9⟩ := hc 9 c9 rfl 8 3 (by kernel_rfl)
    obtain ⟨ln, rfl, _⟩ := leaf_i64 Tryd.underlying3 t9
    obtain ⟨_, _, t10⟩ := hc 10 c10 rfl 8 3 (by kernel_rfl)
    obtain ⟨ma, rfl, _⟩ := leaf_i64 Tryd.underlying3 t10
    obtain ⟨_, _, t11⟩ := hc 11 c11 rfl 8 3 (by kernel_rfl)
    obtain ⟨e1, rfl, _⟩ := leaf_i64 Tryd.underlying3 t11
    obtain ⟨_, _, t12⟩ := hc 12 c12 rfl 8 3 (by kernel_rfl)
    obtain ⟨e2, rfl, _⟩ := leaf_i64 Tryd.underlying3 t12
    obtain ⟨_, _, t13⟩ := hc 13 c13 rfl 8 3 (by kernel_rfl)
    obtain ⟨e3, rfl, _⟩ := leaf_i64 Tryd.underlying3 t13
    obtain ⟨_, _, t14⟩ := hc 14 c14 rfl 8 3 (by kernel_rfl)
    obtain ⟨a1, rfl, _⟩ := leaf_i64 Tryd.underlying3 t14
    obtain ⟨_, _, t15⟩ := hc 15 c15 rfl 8 3 (by kernel_rfl)
    obtain ⟨a2, rfl, _⟩ := leaf_i64 Tryd.underlying3 t15
    obtain ⟨_, _, t16⟩ := hc 16 c16 rfl 8 3 (by kernel_rfl)
    obtain ⟨a3, rfl, _⟩ := leaf_i64 Tryd.underlying3 t16
    obtain ⟨_, _, t17⟩ := hc 17 c17 rfl 8 3 (by kernel_rfl)
    obtain ⟨t, rfl, _⟩ := leaf_i64 Tryd.underlying3 t17
    obtain ⟨no, P, hp⟩ := pts_leaf t6
    obtain ⟨nh, oh, ch, hn, HH, hh⟩ := holes_leaf t7
    obtain ⟨oo, co, rfl, -, -, -⟩ := hp.form
    obtain ⟨oq, cq, rfl, -, -, -⟩ := hh.form
    exact ⟨id, nd, g, s, rv, kd, th, ln, ma, e1, e2, e3, a1, a2, a3, t, oo, oq, no, co, nh, cq, P, oh, ch, hn, HH, rfl, hp, hh⟩
set_option maxRecDepth 100000 in
theorem spot_arg {base : Nat} {r : Reach} {v : Value} {d : DataW H} {ps : List MemPlace} (hv : Value.okWide Tryd.prog W r base 39 v) (h : DataW.Trod enc Tryd.prog W 0 (fun _ => true) true 39 v d ps) :
    ∃ (pt : ByteArray) (tx ty tk : Int) (fl : Bool), v = .agg #[.string pt, .int .i64 tx, .int .i64 ty, .int .i64 tk, .bool fl] := by
  obtain ⟨cs, rfl, hl, hc⟩ := leaf_struct (fs := Tryd.prog.fieldsOf 39) (k := 5) (by kernel_rfl) (by kernel_rfl) hv h
  match cs, hl with
  | [c0, c1, c2, c3, c4], _ =>
    obtain ⟨_, _, t0⟩ := hc 0 c0 rfl 8 9 (by kernel_rfl)
    obtain ⟨pt, rfl, _⟩ := leaf_string Tryd.underlying9 t0
    obtain ⟨_, _, t1⟩ := hc 1 c1 rfl 8 3 (by kernel_rfl)
    obtain ⟨tx, rfl, _⟩ := leaf_i64 Tryd.underlying3 t1
    obtain ⟨_, _, t2⟩ := hc 2 c2 rfl 8 3 (by kernel_rfl)
    obtain ⟨ty, rfl, _⟩ := leaf_i64 Tryd.underlying3 t2
    obtain ⟨_, _, t3⟩ := hc 3 c3 rfl 8 3 (by kernel_rfl)
    obtain ⟨tk, rfl, _⟩ := leaf_i64 Tryd.underlying3 t3
    obtain ⟨_, _, t4⟩ := hc 4 c4 rfl 8 4 (by kernel_rfl)
    obtain ⟨fl, rfl⟩ := leaf_bool Tryd.underlying4 t4
    exact ⟨pt, tx, ty, tk, fl, rfl⟩
set_option maxRecDepth 100000 in
theorem part_bulk {id nd : ByteArray} {c1 c2 c4 c5 c6 c7 c8 c9 c10 c11 c12 c13 c14 c15 c16 c17 : Value} {d : DataW H} {ps : List MemPlace} (h : DataW.Trod enc Tryd.prog W 0 (fun _ => true) true 31 (.agg #[.string id, c1, c2, .string nd, c4, c5, c6, c7, c8, c9, c10, c11, c12, c13, c14, c15, c16, c17]) d ps) : id.size ≤ Rows.uptoBulk d ∧ nd.size ≤ Rows.uptoBulk d := by
  obtain ⟨fuel, hf⟩ := h
  obtain ⟨xs, m, _, hx, hlen, hxl, hfs⟩ := DataW.trod_struct (fs := Tryd.prog.fieldsOf 31) (by kernel_rfl) hf
  have h0 := hfs 0 ((Tryd.prog.fieldsOf 31)[0]!) (by kernel_rfl)
  have h3 := hfs 3 ((Tryd.prog.fieldsOf 31)[3]!) (by kernel_rfl)
  rw [show (Tryd.prog.fieldsOf 31)[0]!.type = 9 by kernel_rfl, show (Tryd.prog.fieldsOf 31)[0]!.offset = 0 by kernel_rfl, show Tryd.prog.cellsOf 9 = 1 by kernel_rfl] at h0
  rw [show (Tryd.prog.fieldsOf 31)[3]!.type = 9 by kernel_rfl, show (Tryd.prog.fieldsOf 31)[3]!.offset = 3 by kernel_rfl, show Tryd.prog.cellsOf 9 = 1 by kernel_rfl] at h3
  have hsz : (Tryd.prog.fieldsOf 31).size = 12 := by kernel_rfl
  rw [hsz] at hxl
  match xs, hxl, hx, h0, h3 with
  | [x0, x1, x2, x3, x4, x5, x6, x7, x8, x9, x10, x11], _, hx, h0, h3 =>
    have h0' : DataW.trod enc Tryd.prog W 0 (fun _ => true) true m 9 [.string id] = some x0 := h0
    have h3' : DataW.trod enc Tryd.prog W 0 (fun _ => true) true m 9 [.string nd] = some x3 := h3
    obtain ⟨s0, e0, d0, _⟩ := DataW.trod_string Tryd.underlying9 h0'
    obtain ⟨s3, e3, d3, _⟩ := DataW.trod_string Tryd.underlying9 h3'
    obtain rfl : id = s0 := by simpa using e0
    obtain rfl : nd = s3 := by simpa using e3
    have hd : d = DataW.agg [x0.1, x1.1, x2.1, x3.1, x4.1, x5.1, x6.1, x7.1, x8.1, x9.1, x10.1, x11.1] := by simpa using congrArg Prod.fst hx
    rw [hd, d0, d3]
    simp only [Rows.uptoBulk, Rows.uptoBulkAll]
    have q0 := Lib.size_eq id
    have q3 := Lib.size_eq nd
    omega
set_option maxRecDepth 100000 in
theorem mat_upto {base : Nat} {r : Reach} {v : Value} {d : DataW H} {ps : List MemPlace} (hv : Value.okWide Tryd.prog W r base 35 v) (h : DataW.Trod enc Tryd.prog W 0 (fun _ => true) true 35 v d ps) : ∃ (m : Mat) (gv : Nat → Value), Rows.uptoBulk d ≤ 1048576 → MatAt W v m gv := by
  obtain ⟨vg, vs, m, gv, rfl, hG, hS⟩ := mat_arg hv h
  have hG' := hG
  obtain ⟨⟨oa, ca, rfl, h1, h2, h3⟩, h4⟩ := hG
  obtain ⟨ob, cb, rfl, -, -⟩ := hS.form
  obtain ⟨b1, b2, b3⟩ := mat_bulk h
  refine ⟨m, gv, fun hk => ⟨_, _, rfl, hG', hS, by omega, by omega, fun i hi => ?_⟩⟩
  obtain ⟨b, off, rfl, hlt, hc⟩ := h3 (by omega)
  obtain ⟨oi, ci, he, -, -⟩ := (h4 i hi).form
  have e3 := hc i 3 hi (by decide)
  have e4 : W.cell? ((⟨b, off, none⟩ : Addr).add (i * 4 + 3)) = some (.slice oi (m.gn i) ci) := by
    have hadd : (⟨b, off, none⟩ : Addr).add (i * 4 + 3) = ⟨b, off + (i * 4 + 3), none⟩ := by unfold Addr.add; split <;> simp_all
    rw [hadd]
    have e5 : W.cell? ⟨b, off + (i * 4 + 3), none⟩ = some (gv i) := by first | exact e3 | simpa [Nat.add_assoc] using e3
    rw [e5, he]
  have := b3 _ rfl i hi oi _ ci e4
  omega
end
/-- a world for the witness: the settled one, the two tables holding what their initialisers lay -/
noncomputable def laidWorld (os : Os) : World :=
  let w0 := World.holding Tryd.prog os ⟨#[], #[], []⟩
  let put (h : Array Obj) (g : Nat) (cs : Array Value) : Array Obj := h.modify g fun
    | .cells _ t frozen => .cells cs t frozen
    | o => o
  let h1 := put w0.heap 1 (Pinned.utf8FirstZ.map fun (z : Nat) => Value.int .u8 (z : Int)).toArray
  let h2 := put h1 2 #[.int .u8 128, .int .u8 191, .int .u8 160, .int .u8 191, .int .u8 128, .int .u8 159, .int .u8 144, .int .u8 191, .int .u8 128, .int .u8 143, .int .u8 0, .int .u8 0, .int .u8 0, .int .u8 0, .int .u8 0, .int .u8 0, .int .u8 0, .int .u8 0, .int .u8 0, .int .u8 0, .int .u8 0, .int .u8 0, .int .u8 0, .int .u8 0, .int .u8 0, .int .u8 0, .int .u8 0, .int .u8 0, .int .u8 0, .int .u8 0, .int .u8 0, .int .u8 0]
  { w0 with heap := h2 }

end Go.Proofs.YtgbhhjdmochhpaaDoor
