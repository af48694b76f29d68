/-
  The law PipeRigid. Conditions: none. By an AI agent.
-/
import Derived.Test.YtdpppklelfmcjaaPipeT
import Derived.Test.YtdpppklelfmcjaaPipeL
import Derived.Test.YtdpppklelfmcjaaOpen
import Derived.Test.YtdpppklelfmcjaaRows
namespace Go.Proofs.Ytdpppklelfmcjaa
open Go Go.ChangeShapes Go.WideShapes Go.RowKit Go.ChangeAt
set_option linter.unusedSimpArgs false
set_option linter.unusedVariables false

theorem ok_in {a b c t : Int} {x y z : Nat → Int} {n : Nat} (h : allTo (okB a b c t x y z) n = true) : allTo (inP x y z) n = true ∧ allTo (inP (plX a t x y z) (plY b t x y z) (plZ c t x y z)) n = true := by
  have h1 := allTo_iff.1 h
  refine ⟨allTo_iff.2 fun i hi => ?_, allTo_iff.2 fun i hi => ?_⟩
  · have := h1 i hi
    unfold okB at this
    simp only [Bool.and_eq_true] at this
    exact this.2
  · have := h1 i hi
    unfold okB at this
    simp only [Bool.and_eq_true] at this
    exact this.1
theorem leg_two {X Y Z : Nat → Int} {n : Nat} {r : Int} (h : checkF n X Y Z r = 0) : applyF (X 0, Y 0, Z 0) (turnOf (dirV X Y Z)) (legV X Y Z 0, 0, 0) = (X 1, Y 1, Z 1) := by
  obtain ⟨n2, -, hA, -, -, hG, -⟩ := check_zero h
  have hin := inP_all hA
  have i0 := hin 0 (by omega)
  have hl := leg_bd hin 0 (by omega)
  have hg : badB X Y Z 0 = false := by
    have := allTo_have hG 0 (by omega)
    simpa using this
  have hax := good_axis hg
  have := part_stands (X := X) (Y := Y) (Z := Z) hax
  unfold applyF
  rw [if_pos ⟨inB_mono i0 (by decide), by unfold InB; simp only; omega⟩]
  exact this
theorem eql_vec_self (a b c : Int) (W : World) : (binOp .eql 40 (.agg #[.int .i64 a, .int .i64 b, .int .i64 c]) (.agg #[.int .i64 a, .int .i64 b, .int .i64 c])).run Try.prog W = .ok (.bool true) W := by
  rw [eql_vec, decide_eq_true rfl]
set_option maxRecDepth 20000 in
set_option maxHeartbeats 8000000 in
theorem pipeRigid_walk (v : Value) (n : Nat) (x y z : Nat → Int) (r a b c t : Int) (w : World) (h : VecsAt w v n x y z) :
    Calls Try.prog 9 #[v, .int .i64 r, .agg #[.int .i64 a, .int .i64 b, .int .i64 c, .int .i64 t]] w fun e w' => e = .returned (.bool true) ∧ Below w.heap.size w w' := by
  obtain ⟨oa, cap, rfl, hn0, -⟩ := h.form
  have HV := Lib.hid h
  clear h
  have HV0 : Hid (VecsAt (w.alloc (.cells #[.int .i64 a, .int .i64 b, .int .i64 c, .int .i64 t] 42)) (.slice oa n cap) n x y z) := HV.out.below ((Below.refl _ _).alloc (Nat.le_refl _) _)
  by_cases hs : n ≤ 60
  · go_enter Try.func9, Try.ntmps9
    go_wp2_with fail
    (go_at_call 24; refine (Valid_any _ _ _ _ _).mono ?_; rintro e w1 ⟨rfl, hb⟩)
    have HV1 := Lib.hid (HV0.out.below hb)
    have HB1 := Lib.hid (below_step (w := w) ((Below.refl _ _).alloc (Nat.le_refl _) _) hb)
    have HQ1 := Lib.hid ((hb.block w.heap.size (by simp)).trans (heapA_at w _ _ rfl))
    obtain ⟨q0, q1, q2, q3, qf, -⟩ := cells_at4 HQ1.out
    clear hb HV0
    by_cases hv : validF (a, b, c) t = true
    · rw [hv]
      have hpl : In3 a b c := by
        unfold validF at hv
        simp only [Bool.and_eq_true, decide_eq_true_eq] at hv
        exact hv.1
      clear hv
      go_wp2_with fail
      (go_at_call 25; refine (placed_pts _ _ _ _ _ _ _ _ _ _ HV1.out (by omega) hpl).mono ?_; rintro e w2 ⟨l, rfl, hl, hb⟩)
      have HV2 := Lib.hid (HV1.out.below hb)
      have HB2 := Lib.hid (below_step HB1.out hb)
      clear hb HV1 HQ1
      obtain ⟨G, hF⟩ : ∃ G, allTo (okB a b c t x y z) n = G := ⟨_, rfl⟩
      rw [hF] at hl ⊢
      cases G
      · clear hl hF
        go_wp2_with fail
        (go_at_call 10; refine (awake_any _).mono ?_; rintro e w3 ⟨rfl, hb⟩)
        have HB3 := Lib.hid (below_step HB2.out hb)
        clear hb
        go_wp2
        go_returns
        exact ⟨rfl, HB3.out⟩
      · obtain ⟨hA, hA2⟩ := ok_in hF
        have hCe := pl_check (r := r) hA hA2
        have hTe := pl_length (r := r) hA hA2
        replace hl := hl rfl
        generalize plX a t x y z = X at *
        generalize plY b t x y z = Y at *
        generalize plZ c t x y z = Z at *
        obtain ⟨C, hC⟩ : ∃ C, checkF n x y z r = C := ⟨_, rfl⟩
        obtain ⟨T, hT⟩ : ∃ T, lengthF n x y z r = T := ⟨_, rfl⟩
        rw [hC] at hCe
        rw [hT] at hTe
        obtain ⟨ol, capl, rfl, -, -⟩ := hl.form
        have HL2 := Lib.hid hl
        have HC := Lib.hid hC
        have HT := Lib.hid hT
        have HCe := Lib.hid hCe
        have HTe := Lib.hid hTe
        clear hC hT hCe hTe hl hA hA2 hF
        go_wp2_with fail
        (go_at_call 13; refine (length_pts _ _ _ _ _ _ _ HV2.out).mono ?_; rintro e w3 ⟨rfl, hb⟩)
        rw [HC.out, HT.out]
        have HL3 := Lib.hid (HL2.out.below hb)
        have HB3 := Lib.hid (below_step HB2.out hb)
        clear hb HV2 HL2
        go_wp2_with fail
        (go_at_call 13; refine (length_pts _ _ _ _ _ _ _ HL3.out).mono ?_; rintro e w4 ⟨rfl, hb⟩)
        rw [HCe.out, HTe.out]
        have HL4 := Lib.hid (HL3.out.below hb)
        have HB4 := Lib.hid (below_step HB3.out hb)
        clear hb HL3
        by_cases h0 : C = 0
        · subst h0
          by_cases hT9 : T ≤ 32768
          · obtain ⟨D, hD⟩ : ∃ D, turnOf (dirV X Y Z) = D := ⟨_, rfl⟩
            have hE : partE n X Y Z r = 0 := by unfold partE; rw [HCe.out, HTe.out, if_pos rfl, if_pos hT9]
            have hP : partF ⟨#[]⟩ ⟨#[]⟩ ⟨#[]⟩ ⟨#[]⟩ n X Y Z r = .agg #[.string ⟨#[]⟩, .int .i64 1, .int .i64 3, .string ⟨#[]⟩, .string ⟨#[]⟩, .int .i64 0, .slice none 0 0, .slice none 0 0, .string ⟨#[]⟩, .int .i64 T, .int .i64 0, .int .i64 0, .int .i64 0, .int .i64 0, .int .i64 (X 0), .int .i64 (Y 0), .int .i64 (Z 0), .int .i64 D] := by
              unfold partF
              rw [if_pos ⟨HCe.out, by rw [HTe.out]; exact hT9⟩, HTe.out, hD]
              rfl
            have hap := leg_two HCe.out
            rw [hD] at hap
            have HAP := Lib.hid hap
            have HIN := Lib.hid (inP_all (check_zero HCe.out).2.2.1)
            have n2 : 2 ≤ n := (check_zero HCe.out).1
            have n3 : ¬ n < 2 := by omega
            have n4 : ¬ (n : Int) < 2 := by omega
            have hn1000 : n ≤ 1000 := by omega
            obtain ⟨M, hM⟩ : ∃ M, n - 1 = M := ⟨_, rfl⟩
            have M0 : 0 < M := by omega
            have m1 : ((M : Int) == 0) = false := by simp; omega
            have m2 : (0 : Int) < M := by omega
            have HP := Lib.hid hP
            have HE := Lib.hid hE
            clear hP hE hap hD hT9
            go_wp2_with fail
            (go_at_call 20; refine (part_pts _ _ _ _ _ _ _ _ _ _ _ HL4.out).mono ?_; rintro e w5 ⟨rfl, hb⟩)
            rw [HP.out, HE.out]
            have HL5 := Lib.hid (HL4.out.below hb)
            have HB5 := Lib.hid (below_step HB4.out hb)
            clear hb HL4
            go_wp2_with (with_reducible refine wpList_store_all 44 w5.heap.size 18 _ 44 part_size rfl rfl rfl rfl (⟨_, (MapKept.heap_alloc w5 _).1, rfl⟩) ?_; intro w6 hs; have hb : Below w5.heap.size w5 w6 := Stored.below ((Below.refl _ _).alloc (Nat.le_refl _) _) hs (Nat.le_refl _))
            have HL6 := Lib.hid (HL5.out.below hb)
            have HB6 := Lib.hid (below_step HB5.out hb)
            have Q6 := Lib.hid hs.here
            have s6 : w5.heap.size < w6.heap.size := (Array.getElem?_eq_some_iff.1 hs.here).1
            clear hs hb HL5
            go_wp2_with fail
            (go_at_call 11; refine (check_pts _ _ _ _ _ _ _ HL6.out).mono ?_; rintro e w7 ⟨rfl, hb⟩)
            rw [HCe.out]
            have HL7 := Lib.hid (HL6.out.below hb)
            have HB7 := Lib.hid (below_step HB6.out hb)
            have Q7 := Lib.hid ((hb.block _ s6).trans Q6.out)
            have s7 : w5.heap.size < w7.heap.size := (Array.getElem?_eq_some_iff.1 Q7.out).1
            clear hb HL6 s6 Q6
            go_wp2_with fail
            (go_at_call 18; refine (legs_pts _ _ _ _ _ _ HL7.out HIN.out hn1000).mono ?_; rintro e w8 ⟨l1, rfl, hl1, -, hb⟩)
            rw [hM] at hl1
            obtain ⟨o1, cap1, rfl, -, -⟩ := hl1.form
            have HL8 := Lib.hid (HL7.out.below hb)
            have HB8 := Lib.hid (below_step HB7.out hb)
            have Q8 := Lib.hid ((hb.block _ s7).trans Q7.out)
            have s8 : w5.heap.size < w8.heap.size := (Array.getElem?_eq_some_iff.1 Q8.out).1
            clear hb HL7 Q7 hl1 s7
            obtain ⟨ol', capl', hol, -, hell⟩ := HL8.out.form
            obtain ⟨rfl, -, rfl⟩ : ol' = ol ∧ True ∧ capl' = capl := by simpa [eq_comm] using hol
            obtain ⟨bl, ofl, rfl, hbl, hcl⟩ := hell 0 (by omega)
            have c00 : w8.cell? ⟨bl, ofl, none⟩ = some (.int .i64 (X 0)) := by simpa using (hcl 0 (by omega)).1
            have c10 : w8.cell? ⟨bl, ofl + 1, none⟩ = some (.int .i64 (Y 0)) := by simpa using (hcl 0 (by omega)).2.1
            have c20 : w8.cell? ⟨bl, ofl + 2, none⟩ = some (.int .i64 (Z 0)) := by simpa using (hcl 0 (by omega)).2.2
            have c01 : w8.cell? ⟨bl, ofl + 3, none⟩ = some (.int .i64 (X 1)) := by simpa using (hcl 1 (by omega)).1
            have c11 : w8.cell? ⟨bl, ofl + 4, none⟩ = some (.int .i64 (Y 1)) := by simpa using (hcl 1 (by omega)).2.1
            have c21 : w8.cell? ⟨bl, ofl + 5, none⟩ = some (.int .i64 (Z 1)) := by simpa using (hcl 1 (by omega)).2.2
            have d14 : w8.cell? ⟨w5.heap.size, 14, none⟩ = some (.int .i64 (X 0)) := by rw [cell_of_row _ _ _ _ _ (0, 0) Q8.out]; rfl
            have d15 : w8.cell? ⟨w5.heap.size, 15, none⟩ = some (.int .i64 (Y 0)) := by rw [cell_of_row _ _ _ _ _ (0, 0) Q8.out]; rfl
            have d16 : w8.cell? ⟨w5.heap.size, 16, none⟩ = some (.int .i64 (Z 0)) := by rw [cell_of_row _ _ _ _ _ (0, 0) Q8.out]; rfl
            have d17 : w8.cell? ⟨w5.heap.size, 17, none⟩ = some (.int .i64 D) := by rw [cell_of_row _ _ _ _ _ (0, 0) Q8.out]; rfl
            clear hell hol hcl
            have k4 : (1 : Int) < n := by omega
            have k6 : (0 : Int) < n := by omega
            have k7 : 1 < n := by omega
            have k8 : 0 < n := by omega
            go_wp2_with fail
            refine wp_region_seq 10 [⟨8, 9, #[.int .i64 0, .int .i64 0, .int .i64 0], 40⟩] [] (by kernel_rfl) (by kernel_rfl) (by kernel_rfl) (by kernel_rfl) (by kernel_rfl) ?_ ?_ ?_
            · intro r hr; cases hr
            · intro r hr; cases hr
            simp only [List.take_succ_cons, List.take_zero, fillL, Act.put, List.setIfInBounds_toArray, List.set_cons_zero, List.set_cons_succ]
            apply seq_is (by kernel_rfl)
            · intro u wx hb hd
              replace hb := hb.nil
              have hz := hb.size
              (try simp only [World.size_alloc, World.size_setCell] at hz)
              have hz0 : w5.heap.size < wx.heap.size := by omega
              have hz1 : bl < wx.heap.size := by omega
              obtain ⟨hc, hf⟩ := bcell hb
              have HBX := Lib.hid hb
              clear hb hz
              simp [depsE, Region.binds, updE, kindOf, Prp.is, Prp.any] at hd
              go_simp
              first | exact ⟨Below.refl _ _, rfl⟩ | rfl
            apply seq_is (by kernel_rfl)
            · intro u wx hb hd
              replace hb := hb.nil
              have hz := hb.size
              (try simp only [World.size_alloc, World.size_setCell] at hz)
              have hz0 : w5.heap.size < wx.heap.size := by omega
              have hz1 : bl < wx.heap.size := by omega
              obtain ⟨hc, hf⟩ := bcell hb
              have HBX := Lib.hid hb
              clear hb hz
              simp [depsE, Region.binds, updE, kindOf, Prp.is, Prp.any] at hd
              go_simp
              first | exact ⟨Below.refl _ _, rfl⟩ | rfl
            apply seq_is (by kernel_rfl)
            · intro u wx hb hd
              replace hb := hb.nil
              have hz := hb.size
              (try simp only [World.size_alloc, World.size_setCell] at hz)
              have hz0 : w5.heap.size < wx.heap.size := by omega
              have hz1 : bl < wx.heap.size := by omega
              obtain ⟨hc, hf⟩ := bcell hb
              have HBX := Lib.hid hb
              clear hb hz
              simp [depsE, Region.binds, updE, kindOf, Prp.is, Prp.any] at hd
              go_simp
              first | exact ⟨Below.refl _ _, rfl⟩ | rfl
            refine seq_new (Prp.ints M (legV X Y Z)) (by kernel_rfl) ?_ ?_
            · intro u wx hb hd
              replace hb := hb.nil
              have hz := hb.size
              (try simp only [World.size_alloc, World.size_setCell] at hz)
              have hz0 : w5.heap.size < wx.heap.size := by omega
              have hz1 : bl < wx.heap.size := by omega
              obtain ⟨hc, hf⟩ := bcell hb
              have HBX := Lib.hid hb
              clear hb hz
              simp [depsE, Region.binds, updE, kindOf, Prp.is, Prp.any] at hd
              refine ⟨by simp [Region.wanted], ?_⟩
              go_simp
              (go_at_call 18; refine (legs_pts _ _ _ _ _ _ (HL8.out.below HBX.out) HIN.out hn1000).mono ?_; rintro e w1 ⟨l2, rfl, hl2, hn2, hb2⟩)
              rw [hM] at hl2
              exact ⟨l2, rfl, hb2, hl2, fun b hb => .inr (.inl (hn2 b hb.2))⟩
            refine seq_new (Prp.cellPtr (.int .i64 (legV X Y Z 0))) (by kernel_rfl) ?_ ?_
            · intro u wx hb hd
              replace hb := hb.nil
              have hz := hb.size
              (try simp only [World.size_alloc, World.size_setCell] at hz)
              have hz0 : w5.heap.size < wx.heap.size := by omega
              have hz1 : bl < wx.heap.size := by omega
              obtain ⟨hc, hf⟩ := bcell hb
              have HBX := Lib.hid hb
              clear hb hz
              simp [depsE, Region.binds, updE, kindOf, Prp.is, Prp.any] at hd
              obtain ⟨o3, cap3, h31, -, h32⟩ := IntsAt.form (show IntsAt wx (u 3) M (legV X Y Z) from hd)
              obtain ⟨b3, f3, rfl, hlt3, hc3⟩ := h32 0 M0
              have hc30 := hc3 0 M0
              refine ⟨by simp [Region.wanted], ?_⟩
              go_simp
              refine ⟨Below.refl _ _, ⟨b3, f3, rfl, hlt3, by simpa using hc30⟩, fun b hb => .inr (.inr ⟨3, by simp [kindOf], by kernel_rfl, ?_⟩)⟩
              obtain ⟨o4, h4⟩ := hb
              have hbb : b3 = b := by simpa using (congrArg (fun v => match v with | .pointer (some a) => a.block | _ => 0) h4)
              show 0 < M ∧ (u 3).ownBlock = some b
              rw [h31]
              exact ⟨M0, by rw [← hbb]; rfl⟩
            apply seq_is (by kernel_rfl)
            · intro u wx hb hd
              replace hb := hb.nil
              have hz := hb.size
              (try simp only [World.size_alloc, World.size_setCell] at hz)
              have hz0 : w5.heap.size < wx.heap.size := by omega
              have hz1 : bl < wx.heap.size := by omega
              obtain ⟨hc, hf⟩ := bcell hb
              have HBX := Lib.hid hb
              clear hb hz
              simp [depsE, Region.binds, updE, kindOf, Prp.is, Prp.any] at hd
              obtain ⟨b4, f4, h41, hlt4, hc4⟩ : ∃ b o : Nat, u 4 = .pointer (some ⟨b, o, none⟩) ∧ b < wx.heap.size ∧ wx.cell? ⟨b, o, none⟩ = some (.int .i64 (legV X Y Z 0)) := hd
              go_simp
              first | exact ⟨Below.refl _ _, rfl⟩ | rfl
            apply seq_is (by kernel_rfl)
            · intro u wx hb hd
              replace hb := hb.nil
              have hz := hb.size
              (try simp only [World.size_alloc, World.size_setCell] at hz)
              have hz0 : w5.heap.size < wx.heap.size := by omega
              have hz1 : bl < wx.heap.size := by omega
              obtain ⟨hc, hf⟩ := bcell hb
              have HBX := Lib.hid hb
              clear hb hz
              simp [depsE, Region.binds, updE, kindOf, Prp.is, Prp.any] at hd
              go_simp
              first | exact ⟨Below.refl _ _, rfl⟩ | rfl
            apply seq_is (by kernel_rfl)
            · intro u wx hb hd
              replace hb := hb.nil
              have hz := hb.size
              (try simp only [World.size_alloc, World.size_setCell] at hz)
              have hz0 : w5.heap.size < wx.heap.size := by omega
              have hz1 : bl < wx.heap.size := by omega
              obtain ⟨hc, hf⟩ := bcell hb
              have HBX := Lib.hid hb
              clear hb hz
              simp [depsE, Region.binds, updE, kindOf, Prp.is, Prp.any] at hd
              go_simp
              first | rfl | (go_at_call 26; refine (Apply_val _ HAP.out).mono ?_; rintro e w1 ⟨rfl, hb1⟩; first | exact ⟨rfl, hb1⟩ | exact ⟨_, rfl, hb1, rfl⟩)
            refine seq_var ⟨8, 9, #[.int .i64 0, .int .i64 0, .int .i64 0], 40⟩ (by simp) rfl ?_ ?_
            · intro u wx hb
              refine ⟨by simp [Region.wanted], ?_⟩
              go_simp
              first | done | rfl | exact ⟨rfl, rfl⟩
            apply seq_sto_agg ⟨8, 9, #[.int .i64 0, .int .i64 0, .int .i64 0], 40⟩ (by simp) rfl (by kernel_rfl) rfl (by kernel_rfl)
            · intro u wx hb hd
              replace hb := hb.nil
              have hz := hb.size
              (try simp only [World.size_alloc, World.size_setCell] at hz)
              have hz0 : w5.heap.size < wx.heap.size := by omega
              have hz1 : bl < wx.heap.size := by omega
              obtain ⟨hc, hf⟩ := bcell hb
              have HBX := Lib.hid hb
              clear hb hz
              simp [depsE, Region.binds, updE, kindOf, Prp.is, Prp.any] at hd
              refine ⟨by simp [Region.wanted], fun b' hub hlb hcells => ?_⟩
              have hub' : u 8 = .pointer (some ⟨b', 0, none⟩) := hub
              have hcells' : wx.heap[b']? = some (.cells #[.int .i64 0, .int .i64 0, .int .i64 0] 40) := hcells
              have hat := cells_at3 hcells'
              have HCL := Lib.hid hcells'
              clear hcells hcells' hub
              go_simp
              exact Stored.c3 HCL.out _ _ _
            intro u w9 hb hE hV hP
            replace hb := hb.nil
            clear hP
            have e0 : u 0 = _ := endE_get hE 0 (by decide) (by simp [kindOf])
            have e1 : u 1 = _ := endE_get hE 1 (by decide) (by simp [kindOf])
            have e2 : u 2 = _ := endE_get hE 2 (by decide) (by simp [kindOf])
            have e5 : u 5 = _ := endE_get hE 5 (by decide) (by simp [kindOf])
            have e6 : u 6 = _ := endE_get hE 6 (by decide) (by simp [kindOf])
            have e7 : u 7 = _ := endE_get hE 7 (by decide) (by simp [kindOf])
            have e9 : u 9 = _ := endE_get hE 9 (by decide) (by simp [kindOf])
            obtain ⟨⟨V0, pv0, lv0, qv0⟩, -, -⟩ := hV
            replace qv0 : w9.heap[V0]? = some (.cells (u 9).cells 40) := qv0
            rw [e9] at qv0
            replace pv0 : u 8 = .pointer (some ⟨V0, 0, none⟩) := pv0
            obtain ⟨mV00, mV01, mV02, mfV0, msV0⟩ := cells_at3 qv0
            have HQV0 := Lib.hid qv0
            clear qv0
            (try simp only [World.size_alloc, World.size_setCell] at lv0)
            have dV0w90 : V0 ≠ w5.heap.size := by omega
            have dV0w91 : V0 ≠ bl := by omega
            clear lv0
            simp only [List.drop_succ_cons, List.drop_zero, List.take_succ_cons, List.take_zero, fillL, Act.put, List.setIfInBounds_toArray, List.set_cons_zero, List.set_cons_succ, e0, e1, e2, e5, e6, e7, e9, pv0]
            clear e0 e1 e2 e5 e6 e7 e9 pv0 hE
            have HBWw9 := Lib.hid hb
            have hw9 := below_step (w := w) (by first | assumption | go_grown) hb
            have hzw9 := hb.size
            (try simp only [World.size_alloc, World.size_setCell] at hzw9)
            have hzw90 : w5.heap.size < w9.heap.size := by omega
            have hzw91 : bl < w9.heap.size := by omega
            have HHw9 := Lib.hid hb.block
            obtain ⟨hcw9, hfw9⟩ := bcell hb
            clear hb hzw9
            have v0 := fun W => eql_vec_self (X 0) (Y 0) (Z 0) W
            have v1 := fun W => eql_vec_self (X 1) (Y 1) (Z 1) W
            have hpc := past_cell
            go_wp2_with fail
            refine wp_region_past (by kernel_rfl) (by kernel_rfl) ?_
            iterate 15 go_big_quiet_step (fail)
            go_big_quiet_step ((go_at_call 10; exact past_of (awake_any _)))
            iterate 2 go_big_quiet_step (fail)
            refine wpQuiet_nil ?_
            intro w10 hw'
            have hb1 := past_out hw'
            clear hw'
            have HB10 := Lib.hid (below_step hw9 hb1)
            clear hb1
            go_wp2
            go_returns
            exact ⟨rfl, HB10.out⟩
          · have hE : partE n X Y Z r = 9 := by unfold partE; rw [HCe.out, HTe.out, if_pos rfl, if_neg hT9]
            have hP : partF ⟨#[]⟩ ⟨#[]⟩ ⟨#[]⟩ ⟨#[]⟩ n X Y Z r = .agg #[.string ⟨#[]⟩, .int .i64 0, .int .i64 0, .string ⟨#[]⟩, .string ⟨#[]⟩, .int .i64 0, .slice none 0 0, .slice none 0 0, .string ⟨#[]⟩, .int .i64 0, .int .i64 0, .int .i64 0, .int .i64 0, .int .i64 0, .int .i64 0, .int .i64 0, .int .i64 0, .int .i64 0] := by unfold partF; rw [if_neg (fun h => hT9 (HTe.out ▸ h.2))]; rfl
            clear hT9
            have HP := Lib.hid hP
            have HE := Lib.hid hE
            clear hP hE
            go_wp2_with fail
            (go_at_call 20; refine (part_pts _ _ _ _ _ _ _ _ _ _ _ HL4.out).mono ?_; rintro e w5 ⟨rfl, hb⟩)
            rw [HP.out, HE.out]
            have HL5 := Lib.hid (HL4.out.below hb)
            have HB5 := Lib.hid (below_step HB4.out hb)
            clear hb HL4
            go_wp2_with (with_reducible refine wpList_store_all 44 w5.heap.size 18 _ 44 part_size rfl rfl rfl rfl (⟨_, (MapKept.heap_alloc w5 _).1, rfl⟩) ?_; intro w6 hs; have hb : Below w5.heap.size w5 w6 := Stored.below ((Below.refl _ _).alloc (Nat.le_refl _) _) hs (Nat.le_refl _))
            have HL6 := Lib.hid (HL5.out.below hb)
            have HB6 := Lib.hid (below_step HB5.out hb)
            have Q6 := Lib.hid hs.here
            have s6 : w5.heap.size < w6.heap.size := (Array.getElem?_eq_some_iff.1 hs.here).1
            clear hs hb HL5
            go_wp2_with fail
            (go_at_call 11; refine (check_pts _ _ _ _ _ _ _ HL6.out).mono ?_; rintro e w7 ⟨rfl, hb⟩)
            rw [HCe.out]
            have HL7 := Lib.hid (HL6.out.below hb)
            have HB7 := Lib.hid (below_step HB6.out hb)
            have Q7 := Lib.hid ((hb.block _ s6).trans Q6.out)
            have s7 : w5.heap.size < w7.heap.size := (Array.getElem?_eq_some_iff.1 Q7.out).1
            clear hb HL6 s6 Q6
            go_wp2_with fail
            (go_at_call 10; refine (awake_any _).mono ?_; rintro e w8 ⟨rfl, hb⟩)
            have HB8 := Lib.hid (below_step HB7.out hb)
            clear hb
            go_wp2
            go_returns
            exact ⟨rfl, HB8.out⟩
        · have hE : partE n X Y Z r = C := by unfold partE; rw [HCe.out, if_neg h0]
          have hP : partF ⟨#[]⟩ ⟨#[]⟩ ⟨#[]⟩ ⟨#[]⟩ n X Y Z r = .agg #[.string ⟨#[]⟩, .int .i64 0, .int .i64 0, .string ⟨#[]⟩, .string ⟨#[]⟩, .int .i64 0, .slice none 0 0, .slice none 0 0, .string ⟨#[]⟩, .int .i64 0, .int .i64 0, .int .i64 0, .int .i64 0, .int .i64 0, .int .i64 0, .int .i64 0, .int .i64 0, .int .i64 0] := by unfold partF; rw [if_neg (fun h => h0 (HCe.out.symm.trans h.1))]; rfl
          have k0 : (C != 0) = true := by simpa using h0
          have k1 : (C == 0) = false := by simpa using h0
          clear h0
          have HP := Lib.hid hP
          have HE := Lib.hid hE
          clear hP hE
          go_wp2_with fail
          (go_at_call 20; refine (part_pts _ _ _ _ _ _ _ _ _ _ _ HL4.out).mono ?_; rintro e w5 ⟨rfl, hb⟩)
          rw [HP.out, HE.out]
          have HL5 := Lib.hid (HL4.out.below hb)
          have HB5 := Lib.hid (below_step HB4.out hb)
          clear hb HL4
          go_wp2_with (with_reducible refine wpList_store_all 44 w5.heap.size 18 _ 44 part_size rfl rfl rfl rfl (⟨_, (MapKept.heap_alloc w5 _).1, rfl⟩) ?_; intro w6 hs; have hb : Below w5.heap.size w5 w6 := Stored.below ((Below.refl _ _).alloc (Nat.le_refl _) _) hs (Nat.le_refl _))
          have HL6 := Lib.hid (HL5.out.below hb)
          have HB6 := Lib.hid (below_step HB5.out hb)
          have Q6 := Lib.hid hs.here
          have s6 : w5.heap.size < w6.heap.size := (Array.getElem?_eq_some_iff.1 hs.here).1
          clear hs hb HL5
          go_wp2_with fail
          (go_at_call 11; refine (check_pts _ _ _ _ _ _ _ HL6.out).mono ?_; rintro e w7 ⟨rfl, hb⟩)
          rw [HCe.out]
          have HL7 := Lib.hid (HL6.out.below hb)
          have HB7 := Lib.hid (below_step HB6.out hb)
          have Q7 := Lib.hid ((hb.block _ s6).trans Q6.out)
          have s7 : w5.heap.size < w7.heap.size := (Array.getElem?_eq_some_iff.1 Q7.out).1
          clear hb HL6 s6 Q6
          go_wp2_with fail
          (go_at_call 10; refine (awake_any _).mono ?_; rintro e w8 ⟨rfl, hb⟩)
          have HB8 := Lib.hid (below_step HB7.out hb)
          clear hb
          go_wp2
          go_returns
          exact ⟨rfl, HB8.out⟩
    · rw [Bool.not_eq_true] at hv
      rw [hv]
      clear hv
      go_wp2_with fail
      (go_at_call 10; refine (awake_any _).mono ?_; rintro e w2 ⟨rfl, hb⟩)
      have HB2 := Lib.hid (below_step HB1.out hb)
      clear hb
      go_wp2
      go_returns
      exact ⟨rfl, HB2.out⟩
  · have hb60 : 60 < n := by omega
    clear hs
    go_enter Try.func9, Try.ntmps9
    go_wp2_with fail
    (go_at_call 10; refine (awake_any _).mono ?_; rintro e w1 ⟨rfl, hb⟩)
    have HB1 := Lib.hid (below_step (w := w) ((Below.refl _ _).alloc (Nat.le_refl _) _) hb)
    clear hb
    go_wp2
    go_returns
    exact ⟨rfl, HB1.out⟩

set_option maxRecDepth 100000 in
theorem pipeRigid_contract (H : Type) (enc : TypeId × Value → H) (W : World) (base : Nat) (args : Array Value) (ds gs : List (DataW H)) (before : List MemPlace)
    (hval : ∀ (j : Nat) t v, Try.f9.params[j]? = some t → args[j]? = some v → Value.okWide Try.prog W .any base t v)
    (hW : DataW.Whole enc Try.prog Try.f9.params.toList Rows.pipeRigidSpec.vars false W args.toList ds gs before) (hL : laidMetH Try.prog Rows.pipeRigidRow.laid W) :
    Calls Try.prog 9 args W fun e W' => ∃ v, e = .returned v ∧ Rows.pipeRigidSpec.post enc Try.prog Try.f9 false true false false W args v W' := by
  have hW' := hW
  obtain ⟨p, q, hA0, hV, rfl, hfz, hnd⟩ := hW
  have hA : DataW.TrodAll enc Try.prog W 0 (fun _ => true) true Try.f9.params.toList args.toList ds p := hA0
  rw [Try.params9] at hA hval
  obtain ⟨v0, vs0, d0, ds0, p0, q0, hargs, rfl, rfl, h0, r0⟩ := trodAll_cons hA
  obtain ⟨v1, vs1, d1, ds1, p1, q1, rfl, rfl, rfl, h1, r1⟩ := trodAll_cons r0
  obtain ⟨v2, vs2, d2, ds2, p2, q2, rfl, rfl, rfl, h2, r2⟩ := trodAll_cons r1
  obtain ⟨rfl, rfl, rfl⟩ := trodAll_nil r2
  obtain rfl : args = #[v0, v1, v2] := by cases args; simp_all
  obtain ⟨n, ff, hff, hbd⟩ := flat_slice (n := 8) (e := 40) (sz := 3) (by kernel_rfl) (by kernel_rfl) (by decide) (by kernel_rfl) (hval 0 22 v0 rfl rfl) h0
  have hvv := vecs_of_flat hff
  obtain ⟨r, rfl, rfl, rfl, _w1⟩ := open_int Try.underlying3 (hval 1 3 v1 rfl rfl) h1
  obtain ⟨zs2, rfl, hl2, hb2⟩ := flat_open (n := 8) (fs := Try.prog.fieldsOf 42) (by kernel_rfl) (by kernel_rfl) (by kernel_rfl) (hval 2 42 v2 rfl rfl) h2
  obtain ⟨a, b, c, t, rfl⟩ := list4 hl2
  refine (pipeRigid_walk _ n _ _ _ r a b c t W hvv).mono fun e W' ⟨he, hb⟩ => ?_
  subst he
  exact ⟨_, rfl, law_post laidOut (by kernel_rfl) (by kernel_rfl) Try.underlying4 rfl hW' (fun _ => rfl) hb⟩
theorem pipeRigid_reads (os : Os) {H : Type} (enc : TypeId × Value → H) : ∃ places, DataW.whole enc Try.prog ((World.settled Try.prog os).forCall (fun _ _ => 0) ⟨#[], #[.slice none 0 0, .int .i64 0, .agg #[.int .i64 0, .int .i64 0, .int .i64 0, .int .i64 0]], []⟩).memory Try.f9.params.toList Rows.pipeRigidSpec.vars false (#[.slice none 0 0, .int .i64 0, .agg #[.int .i64 0, .int .i64 0, .int .i64 0, .int .i64 0]] : Array Value).toList 8 = some ([.nil, .lit (.int .i64 0), .agg [.agg [.lit (.int .i64 0), .lit (.int .i64 0), .lit (.int .i64 0)], .lit (.int .i64 0)]], [], places) := ⟨[], by kernel_rfl⟩
set_option maxRecDepth 100000 in
theorem pipeRigid_lifted (os : Os) (started : os.Started) (H : Type) (enc : TypeId × Value → H) (F : Stop.Interp) :
    ReturnsInHanded {} Try.checked os 9 .any ((OpenSpec.ofChange Rows.pipeRigidSpec).preRow enc Try.prog Try.f9 Rows.pipeRigidRow.domain false Rows.pipeRigidRow.laid) (((OpenSpec.ofChange Rows.pipeRigidSpec).at F).post enc Try.prog Try.f9 false true false false) := by
  obtain ⟨places, hx⟩ := pipeRigid_reads os enc
  refine returnsInHanded_of_row (C := Try.checked) (s := OpenSpec.ofChange Rows.pipeRigidSpec) own started (by kernel_rfl) Try.func9
    (witness_row_at (enc := enc) (C := Try.checked) false (World.settled Try.prog os) #[.slice none 0 0, .int .i64 0, .agg #[.int .i64 0, .int .i64 0, .int .i64 0, .int .i64 0]] rfl (by kernel_rfl) (by kernel_rfl) (by kernel_rfl)
      (OpenSpec.preRow_of_cond 8 hx (by kernel_rfl) (fun k hk => by cases hk) (by kernel_rfl) (laidMet_nil _ _))) ?_
  intro W base args ds gs before hval hW _ _ _ hL _ _
  exact pipeRigid_contract H enc W base args ds gs before hval hW hL
theorem pipeRigid_said : Rows.PipeRigidSaid :=
  OpenClaim.holds_of_cond 9 Try.f9 rfl rfl rfl rfl rfl rfl rfl ⟨rfl, rfl, rfl, rfl, rfl⟩ rfl rfl rfl rfl rfl (by kernel_rfl) Try.func9 (by kernel_rfl)
    (of_decide_eq_true (by kernel_rfl)) (by unfold Func.isWrapper; rw [if_neg (of_decide_eq_false (by kernel_rfl))]; exact ⟨rfl, rfl⟩)
    (fun os started H enc _ F => by rw [OpenClaim.pre_eq_preRow]; exact pipeRigid_lifted os started H enc F)
#print axioms pipeRigid_said
end Go.Proofs.Ytdpppklelfmcjaa
