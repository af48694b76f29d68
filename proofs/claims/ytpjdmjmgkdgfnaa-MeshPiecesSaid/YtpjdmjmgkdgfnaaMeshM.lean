/-
  Arrays of Wides; mesh.Moment24, by walks. Conditions: none. By an AI agent.
-/
import Derived.Test.YtpjdmjmgkdgfnaaMeshL
import Derived.Test.YtpjdmjmgkdgfnaaStore
import Derived.Test.YtpjdmjmgkdgfnaaCopyK
namespace Go.Proofs.Ytpjdmjmgkdgfnaa
open Go Go.RowKit
set_option linter.unusedVariables false
set_option linter.unusedSimpArgs false
set_option maxRecDepth 100000

theorem Stored.cell {w w' : World} {b k o : Nat} {cs : Array Value} {t : TypeId} (hs : Stored w w' b cs t) (h : k ≠ b) : w'.cell? ⟨k, o, none⟩ = w.cell? ⟨k, o, none⟩ := by
  unfold World.cell?
  rw [hs.other k h]
/-- a store of some cells of a variable -/
theorem run_storeAt_part {P : Program} {w : World} {t : TypeId} {b off k : Nat} {cs0 cs : Array Value} {ty : TypeId} (hk : (P.info? t).map (fun i => i.size) = some k) (hs : cs.size = k) (h0 : off + k ≤ cs0.size) (h1 : cs.toList.all (fun v => v.oneCell') = true)
    (h : w.heap[b]? = some (.cells cs0 ty)) : (Instr.storeAt t (.pointer (some ⟨b, off, none⟩)) (.agg cs)).run P w = .ok () (w.setRow b (cs0.toList.take off ++ cs.toList ++ cs0.toList.drop (off + k)).toArray) := by
  obtain ⟨i, hi, hsz⟩ : ∃ i, P.info? t = some i ∧ i.size = k := by
    cases hi : P.info? t with
    | none => rw [hi] at hk; cases hk
    | some i => rw [hi] at hk; exact ⟨i, rfl, by simpa using hk⟩
  have hst := run_storeCells_at (P := P) b off ty cs.toList 0 cs0 w h (by simp; omega) (fun v hv => by have := List.all_eq_true.1 h1 v hv; simpa using this)
  rw [show cs.toList.length = k by simpa using hs] at hst
  simp [Instr.storeAt, Instr.sureAddr, storeVar, sizeOf, typeInfo, hi, hsz, Value.cells, hs] at hst ⊢
  exact hst
theorem wpList_store_part {P : Program} {ops : Array Oper} {rest : List Oper} {a : Act} {w : World} {Q : Exit → Act → World → Prop} {p x : Tmp} {T : TypeId} {pos : String} {after : Array Edge} (t : TypeId) (b off k : Nat) (cs : Array Value) (ty : TypeId) (cs0 : Array Value)
    (hk : (P.info? t).map (fun i => i.size) = some k) (hp : a.eval (.tmp p) = .pointer (some ⟨b, off, none⟩)) (hx : a.eval (.tmp x) = .agg cs) (hs : cs.size = k) (h1 : cs.toList.all (fun v => v.oneCell') = true)
    (hh : w.heap[b]? = some (.cells cs0 ty)) (h0 : off + k ≤ cs0.size) (h : ∀ w', Stored w w' b (cs0.toList.take off ++ cs.toList ++ cs0.toList.drop (off + k)).toArray ty → wpList P ops Q rest a w') :
    wpList P ops Q (⟨none, .store t (.tmp p) (.tmp x), T, pos, after, none⟩ :: rest) a w := by
  refine wpList_plain rfl fun K hK => ?_
  have hr := run_storeAt_part (P := P) hk hs h0 h1 hh
  have hst := stored_setRow (cs := (cs0.toList.take off ++ cs.toList ++ cs0.toList.drop (off + k)).toArray) hh
  generalize (cs0.toList.take off ++ cs.toList ++ cs0.toList.drop (off + k)).toArray = row at *
  unfold Oper.wp execOp
  simp only [hp, hx]
  simp [hr, Oper.upon]
  exact hK _ _ (h _ hst)
theorem run_loadVar_arr {P : Program} {w : World} {t : TypeId} {b k n : Nat} {e : TypeId} {cs : Array Value} {ty : TypeId} (hu : P.underlying t = some (.array n e)) (hk : (P.info? t).map (fun i => i.size) = some k) (hs : cs.size = k)
    (h : w.heap[b]? = some (.cells cs ty)) : (loadVar t ⟨b, 0, none⟩).run P w = .ok (.agg cs) w := by
  obtain ⟨i, hi, hsz⟩ : ∃ i, P.info? t = some i ∧ i.size = k := by
    cases hi : P.info? t with
    | none => rw [hi] at hk; cases hk
    | some i => rw [hi] at hk; exact ⟨i, rfl, by simpa using hk⟩
  have hl := run_loadCells_list (P := P) w ⟨b, 0, none⟩ cs.toList (fun j v hv => by
    have hadd : (⟨b, 0, none⟩ : Addr).add j = ⟨b, j, none⟩ := by unfold Addr.add; split <;> simp_all
    rw [hadd, cell_of_row w b j cs ty (0, 0) h]
    simpa using hv)
  rw [show cs.toList.length = k by simpa using hs] at hl
  simp [loadVar, isAgg, run_underlying hu, sizeOf, typeInfo, hi, hsz, hl]
theorem wpList_load_arr {P : Program} {ops : Array Oper} {rest : List Oper} {a : Act} {w : World} {Q : Exit → Act → World → Prop} {p d : Tmp} {T : TypeId} {pos : String} {after : Array Edge} (t : TypeId) (b k : Nat) (cs : Array Value) (ty : TypeId) (n : Nat) (e : TypeId)
    (hu : P.underlying t = some (.array n e)) (hk : (P.info? t).map (fun i => i.size) = some k) (hp : a.eval (.tmp p) = .pointer (some ⟨b, 0, none⟩)) (hs : cs.size = k)
    (hh : w.heap[b]? = some (.cells cs ty)) (h : wpList P ops Q rest (a.put (some d) (.agg cs)) w) :
    wpList P ops Q (⟨some d, .load t (.tmp p), T, pos, after, none⟩ :: rest) a w := by
  refine wpList_plain rfl fun K hK => ?_
  have hl := run_loadVar_arr (P := P) hu hk hs hh
  unfold Oper.wp execOp
  simp only [hp]
  simp [Instr.loadAt, Instr.sureAddr, hl, Oper.upon]
  exact hK _ _ h
theorem results_arr_tmp {P : Program} {fn : Func} {c s : Tmp} {T : TypeId} {b k n : Nat} {e : TypeId} {cs : Array Value} {ty : TypeId} {tmps : Array Value} {w : World} (hr : fn.results = #[.cell c T, .tmp s]) (hp : tmps.getD c undef = .pointer (some ⟨b, 0, none⟩))
    (h : w.heap[b]? = some (.cells cs ty)) (hu : P.underlying T = some (.array n e)) (hk : (P.info? T).map (fun i => i.size) = some k) (hs : cs.size = k) : (results fn tmps).run P w = .ok (.tuple #[.agg cs, tmps.getD s undef]) w := by
  have hl := run_loadVar_arr (P := P) hu hk hs h
  have hp2 : tmps[c]?.getD undef = .pointer (some ⟨b, 0, none⟩) := by simpa using hp
  simp [results, hr, hp2, asAddr, hl]
/-- the cells of a Wide -/
def w5 (z : Int) : List Value := [.bool (decide (z < 0)), .int .u64 (wdF z 0), .int .u64 (wdF z 1), .int .u64 (wdF z 2), .int .u64 (wdF z 3)]
def zF (f : Nat → Int) (c q : Nat) : Int := if q < c then f q else 0
/-- three Wides, the first c ones as f says -/
def lC (f : Nat → Int) (c : Nat) : Array Value := (w5 (zF f c 0) ++ w5 (zF f c 1) ++ w5 (zF f c 2)).toArray
theorem w5_0 : w5 0 = [.bool false, .int .u64 0, .int .u64 0, .int .u64 0, .int .u64 0] := by simp [w5, wdF_0]
theorem lC_0 (f : Nat → Int) : lC f 0 = #[.bool false, .int .u64 0, .int .u64 0, .int .u64 0, .int .u64 0, .bool false, .int .u64 0, .int .u64 0, .int .u64 0, .int .u64 0, .bool false, .int .u64 0, .int .u64 0, .int .u64 0, .int .u64 0] := by simp [lC, zF, w5_0]
theorem lC_size (f : Nat → Int) (c : Nat) : (lC f c).size = 15 := rfl
theorem lC_set (f : Nat → Int) {c : Nat} (hc : c < 3) : ((lC f c).toList.take (c * 5) ++ (#[.bool (decide (f c < 0)), .int .u64 (wdF (f c) 0), .int .u64 (wdF (f c) 1), .int .u64 (wdF (f c) 2), .int .u64 (wdF (f c) 3)] : Array Value).toList ++ (lC f c).toList.drop (c * 5 + 5)).toArray = lC f (c + 1) := by
  match c, hc with
  | 0, _ => rfl
  | 1, _ => rfl
  | 2, _ => rfl
theorem lC_ext {f g : Nat → Int} (h : ∀ c, c < 3 → f c = g c) : lC f 3 = lC g 3 := by
  simp only [lC, zF, show (0 : Nat) < 3 from by decide, show (1 : Nat) < 3 from by decide, show (2 : Nat) < 3 from by decide, if_true, h 0 (by decide), h 1 (by decide), h 2 (by decide)]
def mom24 (np : Nat) (P : Nat → V) (nf : Nat) (F : Nat → V) (c : Nat) : Int := if checkM np P nf F = 0 then momF c P F nf else 0
theorem arr_under : Try.prog.underlying 36 = some (.array 3 33) := Try.underlying36
theorem arr_size : (Try.prog.info? 36).map (fun i => i.size) = some 15 := by kernel_rfl
theorem wide_size : (Try.prog.info? 33).map (fun i => i.size) = some 5 := by kernel_rfl
theorem fsum_bd {np : Nat} {P : Nat → V} {f : V} (c : Nat) (hin : ∀ i, i < np → InB 1048576 (P i)) (h : idxB np f = true) : -3145728 ≤ fsum c P f ∧ fsum c P f ≤ 3145728 := by
  obtain ⟨ia, ib, ic, rfl, ha, hb, hc⟩ := idxB_nat h
  have h1 := cmp3_in (hin ia ha) c
  have h2 := cmp3_in (hin ib hb) c
  have h3 := cmp3_in (hin ic hc) c
  unfold fsum pt
  simp only [Int.toNat_natCast]
  omega
theorem mom_bd {np : Nat} {P F : Nat → V} (c : Nat) (hin : ∀ i, i < np → InB 1048576 (P i)) {n : Nat} (hix : ∀ j, j < n → idxB np (F j) = true) (hn : n ≤ 2048) : -44565841414273689896368472064 ≤ momF c P F n ∧ momF c P F n ≤ 44565841414273689896368472064 := by
  have hb := sumTo_bd (f := fun j => fdet P (F j) * fsum c P (F j)) (B := 6917529027641081856 * 3145728) (n := n) (fun i hi => by
    have h1 := fdet_bd hin (hix i hi)
    have h2 := fsum_bd c hin (hix i hi)
    exact mul_bd (by decide) (by decide) h1.1 h1.2 h2.1 h2.2)
  have h2 : (n : Int) * (6917529027641081856 * 3145728) ≤ 2048 * (6917529027641081856 * 3145728) := Int.mul_le_mul_of_nonneg_right (by omega) (by decide)
  unfold momF
  omega
theorem msum_mom (b k np nf : Nat) (P F : Nat → V) (x y : Value) (c : Nat) (w : World) (hc3 : c < 3) (h : MAt w (.agg #[x, y]) np P nf F) (hn : nf ≤ 2048) (hb : b < w.heap.size) (hk : k < w.heap.size) (h0 : w.cell? ⟨b, 0, none⟩ = some x) (h1 : w.cell? ⟨b, 1, none⟩ = some y) (hk0 : w.cell? ⟨k, 0, none⟩ = some (.int .i64 c)) (hin : ∀ i, i < np → InB 1048576 (P i)) (hix : ∀ j, j < nf → idxB np (F j) = true) :
    Calls Try.prog 40 #[.agg #[x, y], .func (.func 41) #[] #[.pointer (some ⟨b, 0, none⟩), .pointer (some ⟨k, 0, none⟩)]] w fun e w' => e = .returned (.agg #[.bool (decide (momF c P F nf < 0)), .int .u64 ((wdF (momF c P F nf)) 0), .int .u64 ((wdF (momF c P F nf)) 1), .int .u64 ((wdF (momF c P F nf)) 2), .int .u64 ((wdF (momF c P F nf)) 3)]) ∧ Below w.heap.size w w' :=
  (msumMom_any (.agg #[x, y]) np P nf F _ _ (fun j => fdet P (F j)) (fun j => fsum c P (F j)) w h hn (fun j hj => by have := fdet_bd hin (hix j hj); omega) (fun j hj => by have := fsum_bd c hin (hix j hj); omega)
    (fun j hj W hW => mom1_any b k np nf P F x y (F j) c W hc3 (h.below hW) (Nat.lt_of_lt_of_le hb hW.size) (Nat.lt_of_lt_of_le hk hW.size) ((hW.cell (p := ⟨_, _, none⟩) hb).trans h0) ((hW.cell (p := ⟨_, _, none⟩) hb).trans h1) ((hW.cell (p := ⟨_, _, none⟩) hk).trans hk0) hin (hix j hj))).mono
    (by rintro e w' ⟨X, rfl, hX, hb⟩; obtain ⟨-, e0, e1, e2, e3⟩ := isW_one hX (wdF_is (isW_lt hX)); rw [e0, e1, e2, e3]; exact ⟨rfl, hb⟩)

theorem lC_one (f : Nat → Int) (c : Nat) : (lC f c).toList.all (fun v => v.oneCell') = true := rfl

set_option maxHeartbeats 4000000 in
theorem Moment24_any (v : Value) (np nf : Nat) (P F : Nat → V) (w : World) (h : MAt w v np P nf F) :
    Calls Try.prog 17 #[v] w fun e w' => e = .returned (.tuple #[.agg (lC (mom24 np P nf F) 3), .int .i64 (checkM np P nf F)]) ∧ Below w.heap.size w w' := by
  have HM := Lib.hid h
  obtain ⟨op, cp, of', cf, he⟩ := h.slices
  cases he
  obtain ⟨x, hx⟩ : ∃ x, (.slice op np cp : Value) = x := ⟨_, rfl⟩
  obtain ⟨y, hy⟩ : ∃ y, (.slice of' nf cf : Value) = y := ⟨_, rfl⟩
  rw [hx, hy] at HM ⊢
  obtain ⟨E, hE⟩ : ∃ E, checkM np P nf F = E := ⟨_, rfl⟩
  have HE := Lib.hid hE
  obtain ⟨f, hf⟩ : ∃ f, mom24 np P nf F = f := ⟨_, rfl⟩
  rw [hE, hf]
  by_cases h0 : E = 0
  · subst h0
    have HG : Hid (Good np P nf F) := check_iff.1 HE.out
    have HFF : Hid (∀ c, momF c P F nf = f c) := fun c => by rw [← hf]; unfold mom24; rw [if_pos hE]
    clear hE hx hy h hf
    go_enter Try.func17, Try.ntmps17
    go_wp2_with fail
    (go_at_call 13; refine (Check_any _ np nf P F _ (HM.out.below (by first | assumption | go_grown))).mono ?_; rintro e_ w1 ⟨rfl, hb⟩)
    have hsw1 := hb.size
    (try simp only [World.size_alloc, World.size_setCell] at hsw1)
    have zzw1 : w.heap.size < w1.heap.size := by omega
    have hPw1 : Below w.heap.size w w1 := below_step (w := w) (by first | exact Below.refl _ _ | go_grown) hb
    have zmw1 : w.heap.size < w1.heap.size := by omega
    have m0w1 : w1.cell? ⟨w.heap.size, 0, none⟩ = some (x) := (hb.cell (p := ⟨_, _, none⟩) (by simp <;> omega)).trans (by simp [go_sem])
    have m1w1 : w1.cell? ⟨w.heap.size, 1, none⟩ = some (y) := (hb.cell (p := ⟨_, _, none⟩) (by simp <;> omega)).trans (by simp [go_sem])
    have hBw1 : Below w.heap.size w w1 := below_step (w := w) (by first | assumption | go_grown) hb
    rw [HE.out]
    have HL1 : Hid (w1.heap[w.heap.size + 1]? = some (.cells (lC f 0) 36)) := by
      show _ = _
      rw [hb.block (w.heap.size + 1) (by simp), lC_0]
      exact heapA_at _ _ _ (by simp)
    have zrw1 : w.heap.size + 1 < w1.heap.size := by
      have := hb.size
      simp only [World.size_alloc] at this
      omega
    clear hb hsw1 hPw1
    go_wp2
    go_loopw [12] (fun i wr => ∃ c : Nat, c ≤ 3 ∧ i = .int .i64 c ∧ Hid (wr.heap[w.heap.size + 1]? = some (.cells (lC f c) 36)) ∧ wr.cell? ⟨w.heap.size, 0, none⟩ = some x ∧ wr.cell? ⟨w.heap.size, 1, none⟩ = some y ∧ w.heap.size + 1 < wr.heap.size ∧ Below w.heap.size w wr) (fun i _ => 3 - (intOf i).toNat)
    case atStart => exact ⟨0, by omega, rfl, HL1, m0w1, m1w1, zrw1, hBw1⟩
    case round =>
      clear m0w1 m1w1 zmw1 hBw1 HL1
      obtain ⟨w2, rfl⟩ : ∃ x : World, x = wr := ⟨_, rfl⟩
      obtain ⟨c, hc, rfl, HL, m0, m1, zmw2, hBw2⟩ := hrel
      by_cases hc3 : c < 3
      · have q0 : (0 : Int) ≤ (c : Int) := by omega
        have q1 : (c : Int) < 3 := by omega
        have zmw2' : w.heap.size < w2.heap.size := by omega
        go_wp2_with fail
        refine wp_region_relw 5 (by kernel_rfl) (by kernel_rfl) (by kernel_rfl) ?_
        simp only [List.take_succ_cons, List.take_zero, fillL, Act.put, List.setIfInBounds_toArray, List.set_cons_zero, List.set_cons_succ]
        iterate 3
          apply rel_is
          · intro u wx hb hd
            have hz := hb.size
            (try simp only [World.size_alloc, World.size_setCell] at hz)
            have hz0 : w.heap.size < wx.heap.size := by omega
            have hz1 : w2.heap.size < wx.heap.size := by omega
            obtain ⟨hc, hf⟩ := bcell hb
            have HBX := Lib.hid hb
            clear hb hz
            simp [depsS, Region.binds, updS, Stay.is, Stay.any] at hd
            go_simp
            first | exact ⟨Below.refl _ _, rfl⟩ | rfl
        apply rel_is
        · intro u wx hb hd
          have hz := hb.size
          (try simp only [World.size_alloc, World.size_setCell] at hz)
          have hz0 : w.heap.size < wx.heap.size := by omega
          have hz1 : w2.heap.size < wx.heap.size := by omega
          obtain ⟨hc, hf⟩ := bcell hb
          have HBX := Lib.hid hb
          clear hb hz
          simp [depsS, Region.binds, updS, Stay.is, Stay.any] at hd
          go_simp
          first | rfl | (go_at_call 40; refine (msum_mom w.heap.size w2.heap.size np nf P F x y c wx hc3 (HM.out.below (below_step (w := w) (by go_grown) HBX.out)) HG.out.n2 (by omega) (by omega) ((hc _ _ (by simp <;> omega)).trans (by simp [go_sem, *])) ((hc _ _ (by simp <;> omega)).trans (by simp [go_sem, *])) ((hc _ _ (by simp <;> omega)).trans (by simp [go_sem])) HG.out.ins HG.out.ix).mono ?_; rintro e w1 ⟨rfl, hb1⟩; first | exact ⟨rfl, hb1⟩ | exact ⟨_, rfl, hb1, rfl⟩)
        apply rel_is
        · intro u wx hb hd
          have hz := hb.size
          (try simp only [World.size_alloc, World.size_setCell] at hz)
          have hz0 : w.heap.size < wx.heap.size := by omega
          have hz1 : w2.heap.size < wx.heap.size := by omega
          obtain ⟨hc, hf⟩ := bcell hb
          have HBX := Lib.hid hb
          clear hb hz
          simp [depsS, Region.binds, updS, Stay.is, Stay.any] at hd
          go_simp
          first | exact ⟨Below.refl _ _, rfl⟩ | rfl
        intro u w5 hb hE
        have e0 : u 0 = _ := endS_get hE 0 (by decide)
        have e1 : u 1 = _ := endS_get hE 1 (by decide)
        have e2 : u 2 = _ := endS_get hE 2 (by decide)
        have e3 : u 3 = _ := endS_get hE 3 (by decide)
        have e4 : u 4 = _ := endS_get hE 4 (by decide)
        simp only [List.drop_succ_cons, List.drop_zero, List.take_succ_cons, List.take_zero, fillL, Act.put, List.setIfInBounds_toArray, List.set_cons_zero, List.set_cons_succ, e0, e1, e2, e3, e4]
        clear e0 e1 e2 e3 e4 hE
        have HBw5 := Lib.hid (below_step (w := w2) (by first | assumption | go_grown) hb)
        have HBXw5 := Lib.hid hb
        have hzw5 := hb.size
        (try simp only [World.size_alloc, World.size_setCell] at hzw5)
        have hzw50 : w.heap.size < w5.heap.size := by omega
        have hzw51 : w2.heap.size < w5.heap.size := by omega
        obtain ⟨hcw5, hfw5⟩ := bcell hb
        clear hb hzw5
        have hB5 : Below w.heap.size w w5 := below_step hBw2 HBw5.out
        have HL5 : Hid (w5.heap[w.heap.size + 1]? = some (.cells (lC f c) 36)) := (HBw5.out.block _ zmw2).trans HL.out
        have p0 := (HBw5.out.cell (p := ⟨w.heap.size, 0, none⟩) (by show w.heap.size < _; omega)).trans m0
        have p1 := (HBw5.out.cell (p := ⟨w.heap.size, 1, none⟩) (by show w.heap.size < _; omega)).trans m1
        rw [HFF.out c]
        go_wp2_with (first
          | (with_reducible refine wpList_store_part 33 (w.heap.size + 1) (c * 5) 5 _ 36 _ wide_size (by simp [go_sem]) rfl rfl rfl HL5.out (by rw [lC_size]; omega) ?_; intro w6 hs)
          | go_in)
        have HL6 : Hid (w6.heap[w.heap.size + 1]? = some (.cells (lC f (c + 1)) 36)) := by
          have h := hs.here
          rw [lC_set f hc3] at h
          exact h
        have hB6 : Below w.heap.size w w6 := Stored.below hB5 hs (by omega)
        have s0 := (Stored.cell (o := 0) hs (by omega : w.heap.size ≠ w.heap.size + 1)).trans p0
        have s1 := (Stored.cell (o := 1) hs (by omega : w.heap.size ≠ w.heap.size + 1)).trans p1
        have hz6 := hs.size
        go_wp2
        go_roundw
        case rel => exact ⟨c + 1, by omega, by go_num, HL6, s0, s1, by omega, hB6⟩
        case measure => simp [intOf]; omega
      · obtain rfl : c = 3 := by omega
        go_wp2_with (first | (with_reducible refine wpList_load_arr 36 (w.heap.size + 1) 15 _ 36 3 33 arr_under arr_size rfl (lC_size _ _) (HL.out) ?_) | (with_reducible refine wpList_store_all 36 (w.heap.size + 1) 15 (lC _ _) 36 arr_size rfl rfl (lC_size _ _) (lC_one _ _) ⟨_, HL.out, lC_size _ _⟩ ?_; intro w6 hs) | go_in)
        have hB6 : Below w.heap.size w w6 := Stored.below hBw2 hs (by omega)
        refine bodyPost_ret (results_arr_tmp rfl rfl hs.here arr_under arr_size (lC_size _ _)) rfl ?_
        exact ⟨rfl, hB6⟩
  · have kE2 : (E == 0) = false := by simpa using h0
    have kE3 : (E != 0) = true := by simpa using h0
    have HFF : Hid (lC f 3 = lC f 0) := by
      show _ = _
      have h : ∀ c, f c = 0 := fun c => by rw [← hf]; unfold mom24; rw [if_neg (by rw [hE]; exact h0)]
      simp [lC, zF, h]
    rw [HFF.out]
    clear hE hx hy h hf h0
    go_enter Try.func17, Try.ntmps17
    go_wp2_with fail
    (go_at_call 13; refine (Check_any _ np nf P F _ (HM.out.below (by first | assumption | go_grown))).mono ?_; rintro e_ w1 ⟨rfl, hb⟩)
    have hsw1 := hb.size
    (try simp only [World.size_alloc, World.size_setCell] at hsw1)
    have zzw1 : w.heap.size < w1.heap.size := by omega
    have hPw1 : Below w.heap.size w w1 := below_step (w := w) (by first | exact Below.refl _ _ | go_grown) hb
    have zmw1 : w.heap.size < w1.heap.size := by omega
    have m0w1 : w1.cell? ⟨w.heap.size, 0, none⟩ = some (x) := (hb.cell (p := ⟨_, _, none⟩) (by simp <;> omega)).trans (by simp [go_sem])
    have m1w1 : w1.cell? ⟨w.heap.size, 1, none⟩ = some (y) := (hb.cell (p := ⟨_, _, none⟩) (by simp <;> omega)).trans (by simp [go_sem])
    have hBw1 : Below w.heap.size w w1 := below_step (w := w) (by first | assumption | go_grown) hb
    rw [HE.out]
    have HL1 : Hid (w1.heap[w.heap.size + 1]? = some (.cells (lC f 0) 36)) := by
      show _ = _
      rw [hb.block (w.heap.size + 1) (by simp), lC_0]
      exact heapA_at _ _ _ (by simp)
    have zrw1 : w.heap.size + 1 < w1.heap.size := by
      have := hb.size
      simp only [World.size_alloc] at this
      omega
    clear hb hsw1 hPw1
    go_wp2_with (first | (with_reducible refine wpList_load_arr 36 (w.heap.size + 1) 15 _ 36 3 33 arr_under arr_size rfl (lC_size _ _) (HL1.out) ?_) | (with_reducible refine wpList_store_all 36 (w.heap.size + 1) 15 (lC _ _) 36 arr_size rfl rfl (lC_size _ _) (lC_one _ _) ⟨_, HL1.out, lC_size _ _⟩ ?_; intro w6 hs) | go_in)
    have hB6 : Below w.heap.size w w6 := Stored.below hBw1 hs (by omega)
    refine bodyPost_ret (results_arr_tmp rfl rfl hs.here arr_under arr_size (lC_size _ _)) rfl ?_
    exact ⟨rfl, hB6⟩
end Go.Proofs.Ytpjdmjmgkdgfnaa
