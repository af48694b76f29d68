/-
  placed. Conditions: none. By an AI agent.
-/
import Derived.Test.YtdpppklelfmcjaaPipeS
namespace Go.Proofs.Ytdpppklelfmcjaa
open Go Go.ChangeShapes Go.WideShapes Go.RowKit Go.ChangeAt
set_option linter.unusedSimpArgs false
set_option linter.unusedVariables false

def okB (a b c t : Int) (x y z : Nat → Int) (i : Nat) : Bool := decide (In3 ((plX a t x y z) i) ((plY b t x y z) i) ((plZ c t x y z) i)) && decide (In3 (x i) (y i) (z i))
theorem Apply_val {a b c t x y z p q r : Int} (w : World) (he : applyF (a, b, c) t (x, y, z) = (p, q, r)) :
    Calls Try.prog 26 #[.agg #[.int .i64 a, .int .i64 b, .int .i64 c, .int .i64 t], .agg #[.int .i64 x, .int .i64 y, .int .i64 z]] w fun e w' => e = .returned (.agg #[.int .i64 p, .int .i64 q, .int .i64 r]) ∧ Below w.heap.size w w' := by
  have := Apply_any a b c t x y z w
  rw [he] at this
  exact this
theorem apply_pl {a b c t : Int} {x y z : Nat → Int} {i : Nat} (hp : In3 a b c) (hi : In3 (x i) (y i) (z i)) : applyF (a, b, c) t (x i, y i, z i) = ((plX a t x y z) i, (plY b t x y z) i, (plZ c t x y z) i) :=
  if_pos ⟨inB_mono hp (by decide), inB_mono hi (by decide)⟩
theorem info_vec2 : (Try.prog.info? 40).map (fun i => (i.zero, i.size, i.bytes)) = some (some (.agg #[.int .i64 0, .int .i64 0, .int .i64 0]), 3, 24) := by kernel_rfl
theorem cellP_snoc (x y z : Nat → Int) (k : Nat) : listOf (cellP x y z) (k * 3) ++ [.int .i64 (x k), .int .i64 (y k), .int .i64 (z k)] = listOf (cellP x y z) ((k + 1) * 3) := by
  rw [show (k + 1) * 3 = k * 3 + 1 + 1 + 1 by omega, ← listOf_snoc, ← listOf_snoc, ← listOf_snoc]
  have e0 := cellP_at x y z k 0 (by omega)
  have e1 := cellP_at x y z k 1 (by omega)
  have e2 := cellP_at x y z k 2 (by omega)
  simp only [Nat.add_zero] at e0
  rw [e0, e1, show k * 3 + 1 + 1 = k * 3 + 2 from rfl, e2]
  simp
theorem owns_vecs {w : World} {base : Nat} {e : TypeId} {v : Value} {x y z : Nat → Int} {n : Nat} (h : w.ownsRow base e 3 v n (listOf (cellP x y z) (n * 3))) : VecsAt w v n x y z :=
  owns_slice h _ (by decide) fun i j hi hj => by
    rw [listOf_at _ _ _ (by omega), cellP_at _ _ _ _ _ hj]
    rcases (by omega : j = 0 ∨ j = 1 ∨ j = 2) with rfl | rfl | rfl <;> rfl
theorem valid_two (a b c : Int) : validF (a, b, c) 0 = decide (In3 a b c) := by
  unfold validF
  by_cases h : In3 a b c
  · have h' : InB 524288 (a, b, c) := h
    simp [h, h', numT]
  · have h' : ¬ InB 524288 (a, b, c) := h
    simp [h, h']
/-- the address of a cell that holds a value -/
def Prp.cellPtr (x : Value) : Prp where
  R := fun v w => ∃ b o : Nat, v = .pointer (some ⟨b, o, none⟩) ∧ b < w.heap.size ∧ w.cell? ⟨b, o, none⟩ = some x
  F := fun v b => ∃ o : Nat, v = .pointer (some ⟨b, o, none⟩)
  grow := fun v w w' hb ⟨b, o, h1, h2, h3⟩ => ⟨b, o, h1, Nat.lt_of_lt_of_le h2 hb.size, (hb.cell (p := ⟨b, o, none⟩) h2).trans h3⟩
  kept := fun v w w' b' cs t hs hn ⟨b, o, h1, h2, h3⟩ => ⟨b, o, h1, by rw [hs.size]; exact h2, by rw [World.cell?_of_block (hs.other b (fun e => hn ⟨o, by rw [h1, e]⟩))]; exact h3⟩
  lt := fun v w b' ⟨b, o, h1, h2, h3⟩ ⟨o', h4⟩ => by
    rw [h1] at h4
    have : b = b' := by simpa using (congrArg (fun v => match v with | .pointer (some a) => a.block | _ => 0) h4)
    rw [← this]; exact h2
set_option maxRecDepth 20000 in
set_option maxHeartbeats 8000000 in
theorem placed_pts (v : Value) (n : Nat) (x y z : Nat → Int) (a b c t : Int) (w : World) (h : VecsAt w v n x y z) (hn : n ≤ 1000) (hpl : In3 a b c) :
    Calls Try.prog 25 #[v, .agg #[.int .i64 a, .int .i64 b, .int .i64 c, .int .i64 t]] w fun e w' => ∃ l, e = .returned (.tuple #[l, .bool (allTo (okB a b c t x y z) n)]) ∧ (allTo (okB a b c t x y z) n = true → VecsAt w' l n (plX a t x y z) (plY b t x y z) (plZ c t x y z)) ∧ Below w.heap.size w w' := by
  have hel := h.form
  obtain ⟨oa, cap, rfl, hn0, hel⟩ := hel
  have HEL := Lib.hid hel
  clear hel h
  obtain ⟨i0, hi, hz0, hz1, hz2⟩ := info_parts info_vec2
  go_enter Try.func25, Try.ntmps25
  go_wp2
  go_loopw [6, 7] (fun v i wr => ∃ k : Nat, k ≤ n ∧ i = .int .i64 (k : Int) ∧ Hid (allTo (okB a b c t x y z) k = true) ∧ wr.ownsRow (w.heap.size + 1) 40 3 v k (listOf (cellP (plX a t x y z) (plY b t x y z) (plZ c t x y z)) (k * 3)) ∧ wr.heap[w.heap.size]? = some (.cells #[.int .i64 a, .int .i64 b, .int .i64 c, .int .i64 t] 42) ∧ Below w.heap.size w wr) (fun _ i _ => n - (intOf i).toNat)
  case atStart => exact ⟨0, by omega, rfl, rfl, World.ownsRow_nil _ _ _ _, heapA_at w _ _ rfl, (Below.refl _ _).alloc (Nat.le_refl _) _⟩
  case round =>
    obtain ⟨k, hk, rfl, hq, hown, hpr, hb⟩ := hrel
    by_cases hlt : k < n
    · obtain ⟨b', off, rfl, hbl, hcl⟩ := HEL.out k hlt
      have c0 : wr.cell? ⟨b', off + k * 3, none⟩ = some (.int .i64 (x k)) := (hb.cell (p := ⟨_, _, none⟩) hbl).trans (hcl k hlt).1
      have c1 : wr.cell? ⟨b', off + k * 3 + 1, none⟩ = some (.int .i64 (y k)) := (hb.cell (p := ⟨_, _, none⟩) hbl).trans (hcl k hlt).2.1
      have c2 : wr.cell? ⟨b', off + k * 3 + 2, none⟩ = some (.int .i64 (z k)) := (hb.cell (p := ⟨_, _, none⟩) hbl).trans (hcl k hlt).2.2
      have hbr : b' < wr.heap.size := Nat.lt_of_lt_of_le hbl hb.size
      have hbn : b' ≠ w.heap.size := by omega
      have hzr : w.heap.size < wr.heap.size := (Array.getElem?_eq_some_iff.1 hpr).1
      obtain ⟨l0, l1, l2, l3, lf, -⟩ := cells_at4 hpr
      have HBr := Lib.hid hb
      have HOr := Lib.hid hown
      have HPLr := Lib.hid hpr
      have k4 : (k : Int) < n := by omega
      clear hcl hb hown hpr
      by_cases hpt : In3 (x k) (y k) (z k)
      · have HAP := Lib.hid (apply_pl (t := t) hpl hpt)
        go_wp2_with fail
        refine wp_region_seq 8 [⟨6, 7, #[.int .i64 0, .int .i64 0, .int .i64 0], 40⟩] [] (by kernel_rfl) (by kernel_rfl) (by kernel_rfl) (by kernel_rfl) (by kernel_rfl) ?_ ?_ ?_
        · intro r hr; cases hr
        · intro r hr; cases hr
        simp only [List.take_succ_cons, List.take_zero, fillL, Act.put, List.setIfInBounds_toArray, List.set_cons_zero, List.set_cons_succ]
        apply seq_is (by kernel_rfl)
        · intro u wx hb hd
          replace hb := hb.nil
          have hz := hb.size
          (try simp only [World.size_alloc, World.size_setCell] at hz)
          have hz0 : w.heap.size < wx.heap.size := by omega
          have hz1 : b' < wx.heap.size := by omega
          obtain ⟨hc, hf⟩ := bcell hb
          clear hb hz
          simp [depsE, Region.binds, updE, kindOf, Prp.is, Prp.any] at hd
          go_simp
          first | exact ⟨Below.refl _ _, rfl⟩ | rfl
        apply seq_is (by kernel_rfl)
        · intro u wx hb hd
          replace hb := hb.nil
          have hz := hb.size
          (try simp only [World.size_alloc, World.size_setCell] at hz)
          have hz0 : w.heap.size < wx.heap.size := by omega
          have hz1 : b' < wx.heap.size := by omega
          obtain ⟨hc, hf⟩ := bcell hb
          clear hb hz
          simp [depsE, Region.binds, updE, kindOf, Prp.is, Prp.any] at hd
          go_simp
          first | exact ⟨Below.refl _ _, rfl⟩ | rfl
        apply seq_is (by kernel_rfl)
        · intro u wx hb hd
          replace hb := hb.nil
          have hz := hb.size
          (try simp only [World.size_alloc, World.size_setCell] at hz)
          have hz0 : w.heap.size < wx.heap.size := by omega
          have hz1 : b' < wx.heap.size := by omega
          obtain ⟨hc, hf⟩ := bcell hb
          clear hb hz
          simp [depsE, Region.binds, updE, kindOf, Prp.is, Prp.any] at hd
          go_simp
          first | exact ⟨Below.refl _ _, rfl⟩ | rfl
        apply seq_is (by kernel_rfl)
        · intro u wx hb hd
          replace hb := hb.nil
          have hz := hb.size
          (try simp only [World.size_alloc, World.size_setCell] at hz)
          have hz0 : w.heap.size < wx.heap.size := by omega
          have hz1 : b' < wx.heap.size := by omega
          obtain ⟨hc, hf⟩ := bcell hb
          clear hb hz
          simp [depsE, Region.binds, updE, kindOf, Prp.is, Prp.any] at hd
          go_simp
          first | exact ⟨Below.refl _ _, rfl⟩ | rfl
        apply seq_is (by kernel_rfl)
        · intro u wx hb hd
          replace hb := hb.nil
          have hz := hb.size
          (try simp only [World.size_alloc, World.size_setCell] at hz)
          have hz0 : w.heap.size < wx.heap.size := by omega
          have hz1 : b' < wx.heap.size := by omega
          obtain ⟨hc, hf⟩ := bcell hb
          clear hb hz
          simp [depsE, Region.binds, updE, kindOf, Prp.is, Prp.any] at hd
          go_simp
          first | exact ⟨Below.refl _ _, rfl⟩ | rfl
        apply seq_is (by kernel_rfl)
        · intro u wx hb hd
          replace hb := hb.nil
          have hz := hb.size
          (try simp only [World.size_alloc, World.size_setCell] at hz)
          have hz0 : w.heap.size < wx.heap.size := by omega
          have hz1 : b' < wx.heap.size := by omega
          obtain ⟨hc, hf⟩ := bcell hb
          clear hb hz
          simp [depsE, Region.binds, updE, kindOf, Prp.is, Prp.any] at hd
          go_simp
          first | rfl | (go_at_call 26; refine (Apply_val _ HAP.out).mono ?_; rintro e w1 ⟨rfl, hb1⟩; first | exact ⟨rfl, hb1⟩ | exact ⟨_, rfl, hb1, rfl⟩)
        refine seq_var ⟨6, 7, #[.int .i64 0, .int .i64 0, .int .i64 0], 40⟩ (by simp) rfl ?_ ?_
        · intro u wx hb
          refine ⟨by simp [Region.wanted], ?_⟩
          go_simp
          first | done | rfl | exact ⟨rfl, rfl⟩
        apply seq_sto_agg ⟨6, 7, #[.int .i64 0, .int .i64 0, .int .i64 0], 40⟩ (by simp) rfl (by kernel_rfl) rfl (by kernel_rfl)
        · intro u wx hb hd
          replace hb := hb.nil
          have hz := hb.size
          (try simp only [World.size_alloc, World.size_setCell] at hz)
          have hz0 : w.heap.size < wx.heap.size := by omega
          have hz1 : b' < wx.heap.size := by omega
          obtain ⟨hc, hf⟩ := bcell hb
          clear hb hz
          simp [depsE, Region.binds, updE, kindOf, Prp.is, Prp.any] at hd
          refine ⟨by simp [Region.wanted], fun b' hub hlb hcells => ?_⟩
          have hub' : u 6 = .pointer (some ⟨b', 0, none⟩) := hub
          have hcells' : wx.heap[b']? = some (.cells #[.int .i64 0, .int .i64 0, .int .i64 0] 40) := hcells
          have hat := cells_at3 hcells'
          have HCL := Lib.hid hcells'
          clear hcells hcells' hub
          go_simp
          exact Stored.c3 HCL.out _ _ _
        intro u w5 hb hE hV hP
        replace hb := hb.nil
        clear hP
        have e0 : u 0 = _ := endE_get hE 0 (by decide) (by simp [kindOf])
        have e1 : u 1 = _ := endE_get hE 1 (by decide) (by simp [kindOf])
        have e2 : u 2 = _ := endE_get hE 2 (by decide) (by simp [kindOf])
        have e3 : u 3 = _ := endE_get hE 3 (by decide) (by simp [kindOf])
        have e4 : u 4 = _ := endE_get hE 4 (by decide) (by simp [kindOf])
        have e5 : u 5 = _ := endE_get hE 5 (by decide) (by simp [kindOf])
        have e7 : u 7 = _ := endE_get hE 7 (by decide) (by simp [kindOf])
        obtain ⟨⟨V0, pv0, lv0, qv0⟩, -, -⟩ := hV
        replace qv0 : w5.heap[V0]? = some (.cells (u 7).cells 40) := qv0
        rw [e7] at qv0
        replace pv0 : u 6 = .pointer (some ⟨V0, 0, none⟩) := pv0
        obtain ⟨mV00, mV01, mV02, mfV0, msV0⟩ := cells_at3 qv0
        have HQV0 := Lib.hid qv0
        clear qv0
        (try simp only [World.size_alloc, World.size_setCell] at lv0)
        have dV0w50 : V0 ≠ w.heap.size := by omega
        have dV0w51 : V0 ≠ b' := by omega
        clear lv0
        simp only [List.drop_succ_cons, List.drop_zero, List.take_succ_cons, List.take_zero, fillL, Act.put, List.setIfInBounds_toArray, List.set_cons_zero, List.set_cons_succ, e0, e1, e2, e3, e4, e5, e7, pv0]
        clear e0 e1 e2 e3 e4 e5 e7 pv0 hE
        have HBWw5 := Lib.hid hb
        have hw5 := below_step (w := w) (by first | assumption | go_grown) hb
        have hzw5 := hb.size
        (try simp only [World.size_alloc, World.size_setCell] at hzw5)
        have hzw50 : w.heap.size < w5.heap.size := by omega
        have hzw51 : b' < w5.heap.size := by omega
        have HHw5 := Lib.hid hb.block
        obtain ⟨hcw5, hfw5⟩ := bcell hb
        clear hb hzw5
        have HPL5 := Lib.hid ((HBWw5.out.block _ hzr).trans HPLr.out)
        have HO5 := Lib.hid (owns_below HOr.out HBWw5.out)
        have HQ5 := HQV0
        go_wp2_with fail
        (go_at_call 24; refine (Valid_any _ _ _ _ _).mono ?_; rintro e w6 ⟨rfl, hb⟩)
        rw [valid_two]
        have HB6 := Lib.hid (below_step hw5 hb)
        have HO6 := Lib.hid (owns_below HO5.out hb)
        have HPL6 := Lib.hid ((hb.block _ (by omega)).trans HPL5.out)
        have hq6 := (hb.block _ msV0).trans HQ5.out
        obtain ⟨q60, q61, q62, q6f, q6s⟩ := cells_at3 hq6
        have HQ6 := Lib.hid hq6
        have h6 := hb.cell (p := ⟨b', off + k * 3, none⟩) (by omega)
        have h61 := hb.cell (p := ⟨b', off + k * 3 + 1, none⟩) (by omega)
        have h62 := hb.cell (p := ⟨b', off + k * 3 + 2, none⟩) (by omega)
        have z6 : w5.heap.size ≤ w6.heap.size := hb.size
        clear hb hq6
        by_cases hv : In3 ((plX a t x y z) k) ((plY b t x y z) k) ((plZ c t x y z) k)
        · rw [decide_eq_true hv]
          have hq2 : Hid (allTo (okB a b c t x y z) (k + 1) = true) := allTo_snoc hq.out (by unfold okB; rw [decide_eq_true hv, decide_eq_true hpt]; rfl)
          go_wp2_with fail
          (go_at_call 24; refine (Valid_any _ _ _ _ _).mono ?_; rintro e w7 ⟨rfl, hb⟩)
          rw [valid_two, decide_eq_true hpt]
          have HB7 := Lib.hid (below_step HB6.out hb)
          have HO7 := Lib.hid (owns_below HO6.out hb)
          have HPL7 := Lib.hid ((hb.block _ (by omega)).trans HPL6.out)
          have hq7 := (hb.block _ q6s).trans HQ6.out
          obtain ⟨q70, q71, q72, q7f, q7s⟩ := cells_at3 hq7
          have z7 : w6.heap.size ≤ w7.heap.size := hb.size
          clear hb hq7 q60 q61 q62 q6f h6 h61 h62
          go_wp2_with (first | (at_builtin; refine wpList_append_own _ rfl _ _ 22 rfl (w.heap.size + 1) 40 i0 (.agg #[.int .i64 0, .int .i64 0, .int .i64 0]) 3 24 Try.underlying22 hi hz0 hz1 hz2 rfl (by decide) _ _ _ rfl (HO7.out.alloc _) ⟨w7.heap.size, 0, none⟩ 1 1 [.int .i64 ((plX a t x y z) k), .int .i64 ((plY b t x y z) k), .int .i64 ((plZ c t x y z) k)] rfl rfl ?c1 ?c2 ?c3 ?c4 ?c5 ?_) | go_in)
          case c1 =>
            intro i u hu
            match i, hu with
            | 0, hu => simp at hu; subst hu; simp [Addr.add]
            | 1, hu => simp at hu; subst hu; simp [Addr.add]
            | 2, hu => simp at hu; subst hu; simp [Addr.add]
          case c2 => intro u hu; simp at hu; rcases hu with rfl | rfl | rfl <;> rfl
          case c3 => unfold maxLen; omega
          case c4 => omega
          case c5 => simp; omega
          intro v' w8 hown' hgrow _
          have HB8 := Lib.hid (Below.grown (HB7.out.alloc HB7.out.size _) hgrow (by simp; omega) (fun q hq => by have := owns_new HO7.out q hq; omega))
          have HPL8 := Lib.hid ((hgrow.block w.heap.size (by simp; omega) (fun e => by have := owns_new HO7.out _ e.symm; omega)).trans ((heapA_old _ _ _ (by omega)).trans HPL7.out))
          have HS8 : Hid (w.heap.size < w8.heap.size) := (Array.getElem?_eq_some_iff.1 HPL8.out).1
          rw [cellP_snoc] at hown'
          have HO8 := Lib.hid hown'
          clear hown' hgrow
          go_wp2
          go_roundw
          case rel => exact ⟨k + 1, by omega, by go_num, hq2, HO8.out, HPL8.out, HB8.out⟩
          case measure => simp [intOf]; omega
        · rw [decide_eq_false hv]
          have HR : Hid (allTo (okB a b c t x y z) n = false) := allTo_no hlt (by unfold okB; rw [decide_eq_false hv]; rfl)
          go_wp2
          go_returns
          exact ⟨_, by rw [HR.out]; rfl, (fun h => by rw [HR.out] at h; cases h), HB6.out⟩
      · obtain ⟨⟨p0, p1, p2⟩, hap⟩ : ∃ p, applyF (a, b, c) t (x k, y k, z k) = p := ⟨_, rfl⟩
        have HAP := Lib.hid hap
        clear hap
        go_wp2_with fail
        refine wp_region_seq 8 [⟨6, 7, #[.int .i64 0, .int .i64 0, .int .i64 0], 40⟩] [] (by kernel_rfl) (by kernel_rfl) (by kernel_rfl) (by kernel_rfl) (by kernel_rfl) ?_ ?_ ?_
        · intro r hr; cases hr
        · intro r hr; cases hr
        simp only [List.take_succ_cons, List.take_zero, fillL, Act.put, List.setIfInBounds_toArray, List.set_cons_zero, List.set_cons_succ]
        apply seq_is (by kernel_rfl)
        · intro u wx hb hd
          replace hb := hb.nil
          have hz := hb.size
          (try simp only [World.size_alloc, World.size_setCell] at hz)
          have hz0 : w.heap.size < wx.heap.size := by omega
          have hz1 : b' < wx.heap.size := by omega
          obtain ⟨hc, hf⟩ := bcell hb
          clear hb hz
          simp [depsE, Region.binds, updE, kindOf, Prp.is, Prp.any] at hd
          go_simp
          first | exact ⟨Below.refl _ _, rfl⟩ | rfl
        apply seq_is (by kernel_rfl)
        · intro u wx hb hd
          replace hb := hb.nil
          have hz := hb.size
          (try simp only [World.size_alloc, World.size_setCell] at hz)
          have hz0 : w.heap.size < wx.heap.size := by omega
          have hz1 : b' < wx.heap.size := by omega
          obtain ⟨hc, hf⟩ := bcell hb
          clear hb hz
          simp [depsE, Region.binds, updE, kindOf, Prp.is, Prp.any] at hd
          go_simp
          first | exact ⟨Below.refl _ _, rfl⟩ | rfl
        apply seq_is (by kernel_rfl)
        · intro u wx hb hd
          replace hb := hb.nil
          have hz := hb.size
          (try simp only [World.size_alloc, World.size_setCell] at hz)
          have hz0 : w.heap.size < wx.heap.size := by omega
          have hz1 : b' < wx.heap.size := by omega
          obtain ⟨hc, hf⟩ := bcell hb
          clear hb hz
          simp [depsE, Region.binds, updE, kindOf, Prp.is, Prp.any] at hd
          go_simp
          first | exact ⟨Below.refl _ _, rfl⟩ | rfl
        apply seq_is (by kernel_rfl)
        · intro u wx hb hd
          replace hb := hb.nil
          have hz := hb.size
          (try simp only [World.size_alloc, World.size_setCell] at hz)
          have hz0 : w.heap.size < wx.heap.size := by omega
          have hz1 : b' < wx.heap.size := by omega
          obtain ⟨hc, hf⟩ := bcell hb
          clear hb hz
          simp [depsE, Region.binds, updE, kindOf, Prp.is, Prp.any] at hd
          go_simp
          first | exact ⟨Below.refl _ _, rfl⟩ | rfl
        apply seq_is (by kernel_rfl)
        · intro u wx hb hd
          replace hb := hb.nil
          have hz := hb.size
          (try simp only [World.size_alloc, World.size_setCell] at hz)
          have hz0 : w.heap.size < wx.heap.size := by omega
          have hz1 : b' < wx.heap.size := by omega
          obtain ⟨hc, hf⟩ := bcell hb
          clear hb hz
          simp [depsE, Region.binds, updE, kindOf, Prp.is, Prp.any] at hd
          go_simp
          first | exact ⟨Below.refl _ _, rfl⟩ | rfl
        apply seq_is (by kernel_rfl)
        · intro u wx hb hd
          replace hb := hb.nil
          have hz := hb.size
          (try simp only [World.size_alloc, World.size_setCell] at hz)
          have hz0 : w.heap.size < wx.heap.size := by omega
          have hz1 : b' < wx.heap.size := by omega
          obtain ⟨hc, hf⟩ := bcell hb
          clear hb hz
          simp [depsE, Region.binds, updE, kindOf, Prp.is, Prp.any] at hd
          go_simp
          first | rfl | (go_at_call 26; refine (Apply_val _ HAP.out).mono ?_; rintro e w1 ⟨rfl, hb1⟩; first | exact ⟨rfl, hb1⟩ | exact ⟨_, rfl, hb1, rfl⟩)
        refine seq_var ⟨6, 7, #[.int .i64 0, .int .i64 0, .int .i64 0], 40⟩ (by simp) rfl ?_ ?_
        · intro u wx hb
          refine ⟨by simp [Region.wanted], ?_⟩
          go_simp
          first | done | rfl | exact ⟨rfl, rfl⟩
        apply seq_sto_agg ⟨6, 7, #[.int .i64 0, .int .i64 0, .int .i64 0], 40⟩ (by simp) rfl (by kernel_rfl) rfl (by kernel_rfl)
        · intro u wx hb hd
          replace hb := hb.nil
          have hz := hb.size
          (try simp only [World.size_alloc, World.size_setCell] at hz)
          have hz0 : w.heap.size < wx.heap.size := by omega
          have hz1 : b' < wx.heap.size := by omega
          obtain ⟨hc, hf⟩ := bcell hb
          clear hb hz
          simp [depsE, Region.binds, updE, kindOf, Prp.is, Prp.any] at hd
          refine ⟨by simp [Region.wanted], fun b' hub hlb hcells => ?_⟩
          have hub' : u 6 = .pointer (some ⟨b', 0, none⟩) := hub
          have hcells' : wx.heap[b']? = some (.cells #[.int .i64 0, .int .i64 0, .int .i64 0] 40) := hcells
          have hat := cells_at3 hcells'
          have HCL := Lib.hid hcells'
          clear hcells hcells' hub
          go_simp
          exact Stored.c3 HCL.out _ _ _
        intro u w5 hb hE hV hP
        replace hb := hb.nil
        clear hP
        have e0 : u 0 = _ := endE_get hE 0 (by decide) (by simp [kindOf])
        have e1 : u 1 = _ := endE_get hE 1 (by decide) (by simp [kindOf])
        have e2 : u 2 = _ := endE_get hE 2 (by decide) (by simp [kindOf])
        have e3 : u 3 = _ := endE_get hE 3 (by decide) (by simp [kindOf])
        have e4 : u 4 = _ := endE_get hE 4 (by decide) (by simp [kindOf])
        have e5 : u 5 = _ := endE_get hE 5 (by decide) (by simp [kindOf])
        have e7 : u 7 = _ := endE_get hE 7 (by decide) (by simp [kindOf])
        obtain ⟨⟨V0, pv0, lv0, qv0⟩, -, -⟩ := hV
        replace qv0 : w5.heap[V0]? = some (.cells (u 7).cells 40) := qv0
        rw [e7] at qv0
        replace pv0 : u 6 = .pointer (some ⟨V0, 0, none⟩) := pv0
        obtain ⟨mV00, mV01, mV02, mfV0, msV0⟩ := cells_at3 qv0
        have HQV0 := Lib.hid qv0
        clear qv0
        (try simp only [World.size_alloc, World.size_setCell] at lv0)
        have dV0w50 : V0 ≠ w.heap.size := by omega
        have dV0w51 : V0 ≠ b' := by omega
        clear lv0
        simp only [List.drop_succ_cons, List.drop_zero, List.take_succ_cons, List.take_zero, fillL, Act.put, List.setIfInBounds_toArray, List.set_cons_zero, List.set_cons_succ, e0, e1, e2, e3, e4, e5, e7, pv0]
        clear e0 e1 e2 e3 e4 e5 e7 pv0 hE
        have HBWw5 := Lib.hid hb
        have hw5 := below_step (w := w) (by first | assumption | go_grown) hb
        have hzw5 := hb.size
        (try simp only [World.size_alloc, World.size_setCell] at hzw5)
        have hzw50 : w.heap.size < w5.heap.size := by omega
        have hzw51 : b' < w5.heap.size := by omega
        have HHw5 := Lib.hid hb.block
        obtain ⟨hcw5, hfw5⟩ := bcell hb
        clear hb hzw5
        have HPL5 := Lib.hid ((HBWw5.out.block _ hzr).trans HPLr.out)
        have HO5 := Lib.hid (owns_below HOr.out HBWw5.out)
        have HQ5 := HQV0
        go_wp2_with fail
        (go_at_call 24; refine (Valid_any _ _ _ _ _).mono ?_; rintro e w6 ⟨rfl, hb⟩)
        rw [valid_two]
        have HB6 := Lib.hid (below_step hw5 hb)
        have HO6 := Lib.hid (owns_below HO5.out hb)
        have HPL6 := Lib.hid ((hb.block _ (by omega)).trans HPL5.out)
        have hq6 := (hb.block _ msV0).trans HQ5.out
        obtain ⟨q60, q61, q62, q6f, q6s⟩ := cells_at3 hq6
        have HQ6 := Lib.hid hq6
        have h6 := hb.cell (p := ⟨b', off + k * 3, none⟩) (by omega)
        have h61 := hb.cell (p := ⟨b', off + k * 3 + 1, none⟩) (by omega)
        have h62 := hb.cell (p := ⟨b', off + k * 3 + 2, none⟩) (by omega)
        have z6 : w5.heap.size ≤ w6.heap.size := hb.size
        clear hb hq6
        by_cases hv : In3 p0 p1 p2
        · rw [decide_eq_true hv]
          have HR : Hid (allTo (okB a b c t x y z) n = false) := allTo_no hlt (by unfold okB; rw [decide_eq_false hpt]; simp)
          go_wp2_with fail
          (go_at_call 24; refine (Valid_any _ _ _ _ _).mono ?_; rintro e w7 ⟨rfl, hb⟩)
          rw [valid_two, decide_eq_false hpt]
          have HB7 := Lib.hid (below_step HB6.out hb)
          clear hb
          go_wp2
          go_returns
          exact ⟨_, by rw [HR.out]; rfl, (fun h => by rw [HR.out] at h; cases h), HB7.out⟩
        · rw [decide_eq_false hv]
          have HR : Hid (allTo (okB a b c t x y z) n = false) := allTo_no hlt (by unfold okB; rw [decide_eq_false hpt]; simp)
          go_wp2
          go_returns
          exact ⟨_, by rw [HR.out]; rfl, (fun h => by rw [HR.out] at h; cases h), HB6.out⟩
    · have e : k = n := by omega
      subst e
      have HBr := Lib.hid hb
      have HOr := Lib.hid hown
      have HR := hq
      clear hb hown hpr
      go_wp2
      go_returns
      exact ⟨_, by rw [HR.out]; rfl, fun _ => owns_vecs HOr.out, HBr.out⟩
end Go.Proofs.Ytdpppklelfmcjaa
