/-
  mesh.closed, by walks. Conditions: none. By an AI agent.
-/
import Derived.Test.YtpjdmjmgkdgfnaaMapC
namespace Go.Proofs.Ytpjdmjmgkdgfnaa
open Go Go.RowKit
set_option linter.unusedVariables false
set_option linter.unusedSimpArgs false
set_option maxRecDepth 100000

theorem edges_wf {np nf : Nat} {F : Nat → V} (hp : np ≤ 1024) (h : ∀ j, j < nf → idxB np (F j) = true) : ∀ e ∈ edgesL F nf, wfE e := fun e he =>
  have h' := edges_lt (np := np) (fun j hj => of_decide_eq_true (h j hj)) e he
  wfE_of h'.1 h'.2 hp
theorem GoodE.out {L : List E2} (h : GoodE L) (h' : ∀ e ∈ L, swp e ∈ L) : Closed L := ⟨h.1, h.2, h'⟩

theorem wpList_lookup_known {H : Type} {P : Program} (w : World) {ops : Array Oper} {rest : List Oper} {o : Oper} {a : Act} {Q : Exit → Act → World → Prop}
    (hg : o.guard = none) (m x : Operand) (t : TypeId) (hop : o.op = Op.lookup t m x false)
    (k e : TypeId) (K : Maps.Keyed P k) (ht : P.underlying t = some (.map k e)) (he : P.underlying e = some .bool) (hz : (zeroValue e).run P w = .ok (.bool false) w) (b n : Nat) (D : DataW H)
    (hm : a.eval m = .map (some b)) (hown : w.ownsMap P k (plainElem P e) b n D) (key : Value) (kl : Lit) (hx : a.eval x = key) (hkey : keyOf P k key = some kl) (cv : Bool) (hat : D.atKey kl (.lit (.bool false)) = .lit (.bool cv))
    (hK : wpList P ops Q rest (a.put o.dst (.bool cv)) w) :
    wpList P ops Q (o :: rest) a w :=
  wpList_lookup_bool w hg m x t hop k e K ht he hz b n D hm hown key kl hx hkey (fun c hc => by
    rw [hat] at hc
    cases hc
    exact hK)

set_option maxHeartbeats 4000000 in
theorem closed_any (v : Value) (np nf : Nat) (P F : Nat → V) (w : World) (h : MAt w v np P nf F) (hn : nf ≤ 2048) (hp : np ≤ 1024) (hix : ∀ j, j < nf → idxB np (F j) = true) :
    Calls Try.prog 32 #[v] w fun e w' => e = .returned (.bool (decide (Closed (edgesL F nf)))) ∧ Below w.heap.size w w' := by
  have hmm := @run_makeMap Try.prog
  have HIX := Lib.hid hix
  have HWF := Lib.hid (edges_wf hp hix)
  obtain ⟨vp, vf, rfl, g1, g2⟩ := h
  obtain ⟨op, cp, rfl, -, -, -⟩ := g1.form
  obtain ⟨of', cf, rfl, hnf, hcf, hel⟩ := g2.form
  have HEL := Lib.hid hel
  obtain ⟨E, hE⟩ : ∃ E, decide (Closed (edgesL F nf)) = E := ⟨_, rfl⟩
  have HE := Lib.hid hE
  rw [hE]
  clear g1 g2 hel hE hix
  go_enter Try.func32, Try.ntmps32
  go_wp2
  go_loopw [13] (fun i wr => ∃ (j : Nat) (D : DataW Unit), j ≤ nf ∧ i = .int .i64 j ∧ Hid (wr.ownsMap Try.prog 67 (plainElem Try.prog 4) (w.heap.size + 1) (3 * j) D) ∧ Hid (MapIs D (edgesL F j)) ∧ Hid (GoodE (edgesL F j)) ∧ w.heap.size + 1 < wr.heap.size ∧ Below w.heap.size w wr) (fun i _ => nf - (intOf i).toNat)
  case atStart =>
    refine ⟨0, .map [], by omega, rfl, show World.ownsMap _ _ _ _ _ _ _ from ?_, MapIs.nil, GoodE.nil, by simp, by go_grown⟩
    have h := World.ownsMap_made (H := Unit) (w.alloc (.cells #[.slice op np cp, .slice of' nf cf] 25)) Try.prog 67 (plainElem Try.prog 4)
    simpa using h
  case round =>
    obtain ⟨w1, rfl⟩ : ∃ x : World, x = wr := ⟨_, rfl⟩
    obtain ⟨j, D, hj, rfl, HM, HI, HG, zmw1, hBw1⟩ := hrel
    by_cases hlt : j < nf
    · obtain ⟨b1, f1, rfl, hbl1, hcl1⟩ := HEL.out j hlt
      have c0 : w1.cell? ⟨b1, f1 + j * 3, none⟩ = some (.int .i64 (F j).1) := (hBw1.cell (p := ⟨_, _, none⟩) hbl1).trans (hcl1 j hlt).1
      have c1 : w1.cell? ⟨b1, f1 + j * 3 + 1, none⟩ = some (.int .i64 (F j).2.1) := (hBw1.cell (p := ⟨_, _, none⟩) hbl1).trans (hcl1 j hlt).2.1
      have c2 : w1.cell? ⟨b1, f1 + j * 3 + 2, none⟩ = some (.int .i64 (F j).2.2) := (hBw1.cell (p := ⟨_, _, none⟩) hbl1).trans (hcl1 j hlt).2.2
      have hbr : b1 < w1.heap.size := by omega
      have k0 : (0 : Int) ≤ (j : Int) := by omega
      have k1 : (j : Int) < (nf : Int) := by omega
      clear hcl1
      go_wp2
      go_loopw [17] (fun i wr => ∃ (q : Nat) (D : DataW Unit), q ≤ 3 ∧ i = .int .i64 q ∧ Hid (wr.ownsMap Try.prog 67 (plainElem Try.prog 4) (w.heap.size + 1) (3 * j + q) D) ∧ Hid (MapIs D (edQ F j q)) ∧ Hid (GoodE (edQ F j q)) ∧ wr.cell? ⟨w1.heap.size, 0, none⟩ = some (.int .i64 (F j).1) ∧ wr.cell? ⟨w1.heap.size, 1, none⟩ = some (.int .i64 (F j).2.1) ∧ wr.cell? ⟨w1.heap.size, 2, none⟩ = some (.int .i64 (F j).2.2) ∧ w1.heap.size < wr.heap.size ∧ Below w.heap.size w wr) (fun i _ => 3 - (intOf i).toNat)
      case atStart =>
        exact ⟨0, D, by omega, rfl, HM.out.kept (Below.grow (W := w1) (by go_grown) none) (by simp), by rw [edQ_0]; exact HI.out, by rw [edQ_0]; exact HG.out, by simp [go_sem], by simp [go_sem], by simp [go_sem], by simp, by go_grown⟩
      case round =>
        obtain ⟨w2, rfl⟩ : ∃ x : World, x = wr := ⟨_, rfl⟩
        obtain ⟨q, D2, hq, rfl, HM2, HI2, HG2, m0, m1, m2, zmw2, hBw2⟩ := hrel
        by_cases hq3 : q < 3
        · obtain ⟨r, hr⟩ : ∃ r : Nat, (q + 1) % 3 = r := ⟨_, rfl⟩
          have hr3 : r < 3 := by omega
          have HCC : ∀ c : Nat, c < 3 → w2.cell? ⟨w1.heap.size, c, none⟩ = some (.int .i64 (cmp3 c (F j))) := fun c hc => by
            match c, hc with
            | 0, _ => exact m0
            | 1, _ => exact m1
            | 2, _ => exact m2
          have cq := HCC q hq3
          have cr := HCC r hr3
          obtain ⟨x, hx⟩ : ∃ x, cmp3 q (F j) = x := ⟨_, rfl⟩
          obtain ⟨y, hy⟩ : ∃ y, cmp3 r (F j) = y := ⟨_, rfl⟩
          have HXY : Hid (eQ (F j) q = (x, y)) := by
            show _ = _
            unfold eQ
            rw [hr, hx, hy]
          have HWE : Hid (wfE (x, y)) := by
            show wfE _
            rw [← HXY.out]
            exact eQ_wf (HIX.out j hlt) hp hq3
          rw [hx] at cq
          rw [hy] at cr
          have q0 : (0 : Int) ≤ (q : Int) := by omega
          have q1 : (q : Int) < 3 := by omega
          have r0 : (0 : Int) ≤ (r : Int) := by omega
          have r1 : (r : Int) < 3 := by omega
          have e1 : IntKind.i64.wrap ((q : Int) + 1) = (q : Int) + 1 := IntWalk.i64_in _ (by omega)
          have e2 : ((q : Int) + 1).tmod 3 = (r : Int) := by rw [Int.tmod_eq_emod_of_nonneg (by omega)]; omega
          have e3 : IntKind.i64.wrap (r : Int) = (r : Int) := IntWalk.i64_in _ (by omega)
          clear hx hy hr HCC
          go_wp2_with fail
          refine wp_region_seq 11 [⟨9, 10, #[.int .i64 0, .int .i64 0], 67⟩] [] (by kernel_rfl) (by kernel_rfl) (by kernel_rfl) (by kernel_rfl) (by kernel_rfl) ?_ ?_ ?_
          · intro r hr; cases hr
          · intro r hr; cases hr
          simp only [List.take_succ_cons, List.take_zero, fillL, Act.put, List.setIfInBounds_toArray, List.set_cons_zero, List.set_cons_succ]
          apply seq_is (by kernel_rfl)
          · intro u wx hb hd
            replace hb := hb.nil
            have hz := hb.size
            (try simp only [World.size_alloc, World.size_setCell] at hz)
            have hz0 : w1.heap.size < wx.heap.size := by omega
            obtain ⟨hc, hf⟩ := bcell hb
            clear hb hz
            simp [depsE, Region.binds, updE, kindOf, Prp.is, Prp.any] at hd
            go_simp
            first | exact ⟨Below.refl _ _, rfl⟩ | rfl
          apply seq_is (by kernel_rfl)
          · intro u wx hb hd
            replace hb := hb.nil
            have hz := hb.size
            (try simp only [World.size_alloc, World.size_setCell] at hz)
            have hz0 : w1.heap.size < wx.heap.size := by omega
            obtain ⟨hc, hf⟩ := bcell hb
            clear hb hz
            simp [depsE, Region.binds, updE, kindOf, Prp.is, Prp.any] at hd
            go_simp
            first | exact ⟨Below.refl _ _, rfl⟩ | rfl
          apply seq_is (by kernel_rfl)
          · intro u wx hb hd
            replace hb := hb.nil
            have hz := hb.size
            (try simp only [World.size_alloc, World.size_setCell] at hz)
            have hz0 : w1.heap.size < wx.heap.size := by omega
            obtain ⟨hc, hf⟩ := bcell hb
            clear hb hz
            simp [depsE, Region.binds, updE, kindOf, Prp.is, Prp.any] at hd
            go_simp
            first | exact ⟨Below.refl _ _, rfl⟩ | rfl
          apply seq_is (by kernel_rfl)
          · intro u wx hb hd
            replace hb := hb.nil
            have hz := hb.size
            (try simp only [World.size_alloc, World.size_setCell] at hz)
            have hz0 : w1.heap.size < wx.heap.size := by omega
            obtain ⟨hc, hf⟩ := bcell hb
            clear hb hz
            simp [depsE, Region.binds, updE, kindOf, Prp.is, Prp.any] at hd
            go_simp
            first | exact ⟨Below.refl _ _, rfl⟩ | rfl
          apply seq_is (by kernel_rfl)
          · intro u wx hb hd
            replace hb := hb.nil
            have hz := hb.size
            (try simp only [World.size_alloc, World.size_setCell] at hz)
            have hz0 : w1.heap.size < wx.heap.size := by omega
            obtain ⟨hc, hf⟩ := bcell hb
            clear hb hz
            simp [depsE, Region.binds, updE, kindOf, Prp.is, Prp.any] at hd
            go_simp
            first | exact ⟨Below.refl _ _, rfl⟩ | rfl
          apply seq_is (by kernel_rfl)
          · intro u wx hb hd
            replace hb := hb.nil
            have hz := hb.size
            (try simp only [World.size_alloc, World.size_setCell] at hz)
            have hz0 : w1.heap.size < wx.heap.size := by omega
            obtain ⟨hc, hf⟩ := bcell hb
            clear hb hz
            simp [depsE, Region.binds, updE, kindOf, Prp.is, Prp.any] at hd
            go_simp
            first | exact ⟨Below.refl _ _, rfl⟩ | rfl
          apply seq_is (by kernel_rfl)
          · intro u wx hb hd
            replace hb := hb.nil
            have hz := hb.size
            (try simp only [World.size_alloc, World.size_setCell] at hz)
            have hz0 : w1.heap.size < wx.heap.size := by omega
            obtain ⟨hc, hf⟩ := bcell hb
            clear hb hz
            simp [depsE, Region.binds, updE, kindOf, Prp.is, Prp.any] at hd
            go_simp
            first | exact ⟨Below.refl _ _, rfl⟩ | rfl
          apply seq_is (by kernel_rfl)
          · intro u wx hb hd
            replace hb := hb.nil
            have hz := hb.size
            (try simp only [World.size_alloc, World.size_setCell] at hz)
            have hz0 : w1.heap.size < wx.heap.size := by omega
            obtain ⟨hc, hf⟩ := bcell hb
            clear hb hz
            simp [depsE, Region.binds, updE, kindOf, Prp.is, Prp.any] at hd
            go_simp
            first | exact ⟨Below.refl _ _, rfl⟩ | rfl
          apply seq_is (by kernel_rfl)
          · intro u wx hb hd
            replace hb := hb.nil
            have hz := hb.size
            (try simp only [World.size_alloc, World.size_setCell] at hz)
            have hz0 : w1.heap.size < wx.heap.size := by omega
            obtain ⟨hc, hf⟩ := bcell hb
            clear hb hz
            simp [depsE, Region.binds, updE, kindOf, Prp.is, Prp.any] at hd
            go_simp
            first | exact ⟨Below.refl _ _, rfl⟩ | rfl
          refine seq_var ⟨9, 10, #[.int .i64 0, .int .i64 0], 67⟩ (by simp) rfl ?_ ?_
          · intro u wx hb
            refine ⟨by simp [Region.wanted], ?_⟩
            go_simp
            first | done | rfl | exact ⟨rfl, rfl⟩
          apply seq_sto_agg ⟨9, 10, #[.int .i64 0, .int .i64 0], 67⟩ (by simp) rfl (by kernel_rfl) rfl (by kernel_rfl)
          · intro u wx hb hd
            replace hb := hb.nil
            have hz := hb.size
            (try simp only [World.size_alloc, World.size_setCell] at hz)
            have hz0 : w1.heap.size < wx.heap.size := by omega
            obtain ⟨hc, hf⟩ := bcell hb
            clear hb hz
            simp [depsE, Region.binds, updE, kindOf, Prp.is, Prp.any] at hd
            refine ⟨by simp [Region.wanted], fun b' hub hlb hcells => ?_⟩
            have hub' : u 9 = .pointer (some ⟨b', 0, none⟩) := hub
            have hcells' : wx.heap[b']? = some (.cells #[.int .i64 0, .int .i64 0] 67) := hcells
            have hat := cells_at2 hcells'
            have HCL := Lib.hid hcells'
            clear hcells hcells' hub
            go_simp
            exact Stored.c2 HCL.out _ _
          intro u w5 hb hE hV hP
          replace hb := hb.nil
          clear hP
          have e0 : u 0 = _ := endE_get hE 0 (by decide) (by simp [kindOf])
          have e1 : u 1 = _ := endE_get hE 1 (by decide) (by simp [kindOf])
          have e2 : u 2 = _ := endE_get hE 2 (by decide) (by simp [kindOf])
          have e3 : u 3 = _ := endE_get hE 3 (by decide) (by simp [kindOf])
          have e4 : u 4 = _ := endE_get hE 4 (by decide) (by simp [kindOf])
          have e5 : u 5 = _ := endE_get hE 5 (by decide) (by simp [kindOf])
          have e6 : u 6 = _ := endE_get hE 6 (by decide) (by simp [kindOf])
          have e7 : u 7 = _ := endE_get hE 7 (by decide) (by simp [kindOf])
          have e8 : u 8 = _ := endE_get hE 8 (by decide) (by simp [kindOf])
          have e10 : u 10 = _ := endE_get hE 10 (by decide) (by simp [kindOf])
          obtain ⟨⟨V0, pv0, lv0, qv0⟩, -, -⟩ := hV
          replace qv0 : w5.heap[V0]? = some (.cells (u 10).cells 67) := qv0
          rw [e10] at qv0
          replace pv0 : u 9 = .pointer (some ⟨V0, 0, none⟩) := pv0
          obtain ⟨mV00, mV01, mfV0, msV0⟩ := cells_at2 qv0
          have HQV0 := Lib.hid qv0
          clear qv0
          (try simp only [World.size_alloc, World.size_setCell] at lv0)
          have dV0w50 : V0 ≠ w1.heap.size := by omega
          (try have lbV0 : w2.heap.size ≤ V0 := by omega)
          clear lv0
          simp only [List.drop_succ_cons, List.drop_zero, List.take_succ_cons, List.take_zero, fillL, Act.put, List.setIfInBounds_toArray, List.set_cons_zero, List.set_cons_succ, e0, e1, e2, e3, e4, e5, e6, e7, e8, e10, pv0]
          clear e0 e1 e2 e3 e4 e5 e6 e7 e8 e10 pv0 hE
          have HBWw5 := Lib.hid hb
          have hw5 := below_step (w := w2) (by first | assumption | go_grown) hb
          have hzw5 := hb.size
          (try simp only [World.size_alloc, World.size_setCell] at hzw5)
          have hzw50 : w1.heap.size < w5.heap.size := by omega
          have HHw5 := Lib.hid hb.block
          obtain ⟨hcw5, hfw5⟩ := bcell hb
          clear hb hzw5
          have hB5 : Below w.heap.size w w5 := below_step hBw2 hw5
          have HM5 : Hid (w5.ownsMap Try.prog 67 (plainElem Try.prog 4) (w.heap.size + 1) (3 * j + q) D2) := HM2.out.kept (Below.grow hw5 none) (by simp)
          have n0 := (hcw5 w1.heap.size 0 (by omega)).trans m0
          have n1 := (hcw5 w1.heap.size 1 (by omega)).trans m1
          have n2 := (hcw5 w1.heap.size 2 (by omega)).trans m2
          clear m0 m1 m2
          by_cases hxy : x = y
          · have HEF : Hid (E = false) := by
              show _ = _
              rw [← HE.out]
              exact decide_eq_false (not_closed_self hlt hq3 (by rw [HXY.out]; exact hxy))
            subst hxy
            go_wp2
            go_returns
            rw [HEF.out]
            exact ⟨rfl, by go_grown⟩
          · have kxy : (x == y) = false := by simpa using hxy
            have HNE := Lib.hid hxy
            clear hxy
            obtain ⟨c, hrun, hc⟩ := lookup_bool (t := 82) HM5.out keyed2 Try.underlying82 Try.underlying4 (zero_bool w5) (keyE HWE.out)
            have hcL : c = decide ((x, y) ∈ edQ F j q) := by
              have h := (HI2.out.2 _ HWE.out).1
              rw [hc] at h
              simpa using h
            have HCL2 := Lib.hid hcL
            clear hc hcL
            cases c
            · have HNI : Hid ((x, y) ∉ edQ F j q) := of_decide_eq_false HCL2.out.symm
              have hqn : 3 * j + q < 9223372036854775807 := by omega
              go_wp2_with (first
                | (at_mapUpdate; refine wpList_mapUpdate_own _ rfl _ _ _ 82 rfl 67 4 keyed2 Try.underlying82 _ (w.heap.size + 1) _ _ rfl HM5.out (by unfold maxLen; omega) (.agg #[.int .i64 x, .int .i64 y]) _ _ rfl rfl (keyE HWE.out) _ [] (plainElem_bool Try.underlying4 true) ?_; intro w6 hM6 hg6; go_frame)
                | go_in)
              have hB6 : Below w.heap.size w w6 := Below.grown hB5 hg6 (by have := hB5.size; omega) (fun k hk => by cases hk; omega)
              have hz6 := hg6.size
              have p0 := (hg6.cell n0 (by simp; omega))
              have p1 := (hg6.cell n1 (by simp; omega))
              have p2 := (hg6.cell n2 (by simp; omega))
              go_wp2
              go_roundw
              case rel =>
                refine ⟨q + 1, _, by omega, by go_num, hM6, ?_, ?_, p0, p1, p2, by omega, hB6⟩
                · rw [edQ_succ F j hq3, HXY.out]
                  exact HI2.out.put HWE.out
                · rw [edQ_succ F j hq3, HXY.out]
                  exact HG2.out.snoc HNE.out HNI.out
              case measure => simp [intOf]; omega
            · have HEF : Hid (E = false) := by
                show _ = _
                rw [← HE.out]
                exact decide_eq_false (not_closed_twice hlt hq3 (by rw [HXY.out]; exact of_decide_eq_true HCL2.out.symm))
              go_wp2
              go_returns
              rw [HEF.out]
              exact ⟨rfl, by go_grown⟩
        · obtain rfl : q = 3 := by omega
          clear m0 m1 m2
          go_wp2
          go_roundw
          case rel => exact ⟨j + 1, D2, by omega, by go_num, HM2.out, HI2.out, HG2.out, by omega, hBw2⟩
          case measure => simp [intOf]; omega
    · obtain rfl : j = nf := by omega
      go_wp2_with (first
        | (at_range; refine wpList_range_own _ rfl _ 82 rfl 67 4 keyed2 Try.underlying82 _ (w.heap.size + 1) (3 * j) D rfl HM.out ?_; intro w2 hrg2 hg2 hs2)
        | go_in)
      go_frame
      have hB2 : Below w.heap.size w w2 := Below.grown hBw1 hg2 (by have := hBw1.size; omega) (fun k hk => by cases hk)
      go_loopw [] (fun wr => ∃ (left : Lit → Bool) (cnt : Nat), Hid (wr.ranges Try.prog 67 (plainElem Try.prog 4) (w.heap.size + 1) w1.heap.size (3 * j) D left cnt) ∧ Hid (∀ e, wfE e → left (kE e) = true → e ∈ edgesL F j) ∧ Hid (∀ e ∈ edgesL F j, left (kE e) = false → swp e ∈ edgesL F j) ∧ w1.heap.size < wr.heap.size ∧ Below w.heap.size w wr) (fun wr => wr.rangeLeft (w.heap.size + 1) w1.heap.size)
      case atStart => exact ⟨_, _, hrg2, fun e he h => of_decide_eq_true ((HI.out.2 e he).2.symm.trans h), fun e he h => (by rw [(HI.out.2 e (HWF.out e he)).2, decide_eq_true he] at h; exact absurd h (by decide)), by omega, hB2⟩
      case round =>
        obtain ⟨w3, rfl⟩ : ∃ x : World, x = wr := ⟨_, rfl⟩
        obtain ⟨left, cnt, HR, HL1, HL2, zmw3, hBw3⟩ := hrel
        go_wp2_with (first
          | (at_next; refine wpList_next_ranges _ rfl _ rfl 67 keyed2 (plainElem Try.prog 4) (fun x : E2 => .agg #[.int .i64 x.1, .int .i64 x.2]) (fun v : Value => v) (fun key kl hk => by obtain ⟨x, hx, -⟩ := key2_inv hk; exact ⟨x, hx⟩) (fun v y hv => ⟨v, rfl⟩) (w.heap.size + 1) w1.heap.size (3 * j) D left cnt rfl HR.out ?_ ?_)
          | go_in)
        · intro hc0 hl0
          have HEF : Hid (E = true) := by
            show _ = _
            rw [← HE.out]
            exact decide_eq_true (HG.out.out (fun e he => HL2.out e he (hl0 _)))
          clear hl0
          go_wp2
          go_returns
          rw [HEF.out]
          exact ⟨rfl, by go_grown⟩
        · intro x y c kl ya yb w4 cnt1 hkey hlk hv hat hrg4 hlt4 hg4 hs4 hen
          obtain ⟨x', hx', hwx, rfl⟩ := key2_inv hkey
          have hxx : (x, y) = x' := by simp at hx'; exact Prod.ext hx'.1 hx'.2
          subst hxx
          have HWX := Lib.hid hwx
          have HR4 := Lib.hid hrg4
          have HXL := Lib.hid (HL1.out _ hwx hlk)
          have HLT4 := Lib.hid hlt4
          have hB4 : Below w.heap.size w w4 := Below.grown hBw3 hg4 (by have := hBw3.size; omega) (fun k hk => by cases hk; have := hBw1.size; omega)
          have hen : (Instr.entry (.pointer (some ⟨w1.heap.size, 0, none⟩))).run Try.prog w4 = .ok (.tuple #[.agg #[.int .i64 x, .int .i64 y], c]) w4 := hen
          have zmw4 : w1.heap.size < w4.heap.size := by omega
          clear hx' hwx hrg4 hlk hlt4 hv hat hkey
          by_cases hs : (y, x) ∈ edgesL F j
          · have HSW := Lib.hid hs
            have HAT : Hid (D.atKey (kE (y, x)) (.lit (.bool false)) = .lit (.bool true)) := by
              have h := (HI.out.2 (y, x) ⟨HWX.out.2, HWX.out.1⟩).1
              rw [decide_eq_true hs] at h
              exact h
            clear hs
            go_wp2_with (first
              | (refine wpList_lookup_known _ rfl _ _ 82 rfl 67 4 keyed2 Try.underlying82 Try.underlying4 (zero_bool _) (w.heap.size + 1) (3 * j) D rfl (HR4.out.owns.kept (Below.grow (W := w4) (by go_grown) none) (by simp)) (.agg #[.int .i64 y, .int .i64 x]) (kE (y, x)) rfl (keyE (e := (y, x)) ⟨HWX.out.2, HWX.out.1⟩) true HAT.out ?_; go_frame)
              | go_in)
            have HRN := Lib.hid (HR4.out.alloc (.cells #[.int .i64 x, .int .i64 y] 67))
            go_roundw
            case rel =>
              refine ⟨_, cnt1, HRN.out, fun e he h => HL1.out e he (by simp at h; exact h.1), fun e he h => ?_, by simp; omega, by go_grown⟩
              by_cases hl : left (kE e) = false
              · exact HL2.out e he hl
              · have hs : (kE e).sameKey (kE (x, y)) = true := by simpa [hl] using h
                have := kE_inj (HWF.out e he) HWX.out (WideAt.sameKey_eq hs)
                subst this
                exact HSW.out
            case measure =>
              rw [HRN.out.left_eq, HR.out.left_eq]
              exact HLT4.out
          · have HEF : Hid (E = false) := by
              show _ = _
              rw [← HE.out]
              exact decide_eq_false (fun hc => hs (hc.2.2 _ HXL.out))
            have HAT : Hid (D.atKey (kE (y, x)) (.lit (.bool false)) = .lit (.bool false)) := by
              have h := (HI.out.2 (y, x) ⟨HWX.out.2, HWX.out.1⟩).1
              rw [decide_eq_false hs] at h
              exact h
            clear hs
            go_wp2_with (first
              | (refine wpList_lookup_known _ rfl _ _ 82 rfl 67 4 keyed2 Try.underlying82 Try.underlying4 (zero_bool _) (w.heap.size + 1) (3 * j) D rfl (HR4.out.owns.kept (Below.grow (W := w4) (by go_grown) none) (by simp)) (.agg #[.int .i64 y, .int .i64 x]) (kE (y, x)) rfl (keyE (e := (y, x)) ⟨HWX.out.2, HWX.out.1⟩) false HAT.out ?_; go_frame)
              | go_in)
            go_returns
            rw [HEF.out]
            exact ⟨rfl, by go_grown⟩
end Go.Proofs.Ytpjdmjmgkdgfnaa
