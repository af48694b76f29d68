/-
  The law MeshChecks. Conditions: none. By an AI agent.
-/
import Derived.Test.YtpjdmjmgkdgfnaaMeshV
namespace Go.Proofs.Ytpjdmjmgkdgfnaa
open Go Go.ChangeShapes Go.WideShapes Go.RowKit Go.ChangeAt
set_option linter.unusedVariables false
set_option linter.unusedSimpArgs false
set_option maxRecDepth 100000

set_option maxHeartbeats 4000000 in
theorem meshChecks_walk (v : Value) (np nf : Nat) (P F : Nat → V) (w : World) (h : MAt w v np P nf F) : Calls Try.prog 3 #[v] w fun e w' => e = .returned (.bool true) ∧ Below w.heap.size w w' := by
  have HM := Lib.hid h
  obtain ⟨op, cp, of', cf, he⟩ := h.slices
  cases he
  obtain ⟨x, hx⟩ : ∃ x, (.slice op np cp : Value) = x := ⟨_, rfl⟩
  obtain ⟨y, hy⟩ : ∃ y, (.slice of' nf cf : Value) = y := ⟨_, rfl⟩
  rw [hx, hy] at HM ⊢
  obtain ⟨LB, hLB⟩ : ∃ b, decide (np ≤ 1100 ∧ nf ≤ 300) = b := ⟨_, rfl⟩
  have HLB := Lib.hid hLB
  obtain ⟨E, hE⟩ : ∃ E, checkM np P nf F = E := ⟨_, rfl⟩
  clear hx hy h hLB
  go_enter Try.func3, Try.ntmps3
  go_wp2_with fail
  (go_at_call 11; refine (light_any _ np nf P F _ (HM.out.below (by first | assumption | go_grown))).mono ?_; rintro e_ w1 ⟨rfl, hb⟩)
  have hsw1 := hb.size
  (try simp only [World.size_alloc, World.size_setCell] at hsw1)
  have zzw1 : w.heap.size < w1.heap.size := by omega
  have hPw1 : Below w.heap.size w w1 := below_step (w := w) (by first | exact Below.refl _ _ | go_grown) hb
  have zmw1 : w.heap.size < w1.heap.size := by omega
  have m0w1 : w1.cell? ⟨w.heap.size, 0, none⟩ = some (x) := (hb.cell (p := ⟨_, _, none⟩) (by simp <;> omega)).trans (by simp [go_sem])
  have m1w1 : w1.cell? ⟨w.heap.size, 1, none⟩ = some (y) := (hb.cell (p := ⟨_, _, none⟩) (by simp <;> omega)).trans (by simp [go_sem])
  have hBw1 : Below w.heap.size w w1 := below_step (w := w) (by first | assumption | go_grown) hb
  rw [HLB.out]
  clear hb hsw1 hPw1
  cases LB
  · go_wp2_with fail
    (go_at_call 12; refine (awake_any _).mono ?_; rintro e_ w2 ⟨rfl, hb⟩)
    have hB2 := below_step hBw1 hb
    go_wp2
    go_returns
    exact ⟨rfl, hB2⟩
  · go_wp2_with fail
    refine wp_region_relw 8 (by kernel_rfl) (by kernel_rfl) (by kernel_rfl) ?_
    simp only [List.take_succ_cons, List.take_zero, fillL, Act.put, List.setIfInBounds_toArray, List.set_cons_zero, List.set_cons_succ]
    apply rel_is
    · intro u wx hb hd
      have hz := hb.size
      (try simp only [World.size_alloc, World.size_setCell] at hz)
      have hz0 : w.heap.size < wx.heap.size := by omega
      obtain ⟨hc, hf⟩ := bcell hb
      have HBX := Lib.hid hb
      clear hb hz
      simp [depsS, Region.binds, updS, Stay.is, Stay.any] at hd
      go_simp
      first | exact ⟨Below.refl _ _, rfl⟩ | rfl
    apply rel_is
    · intro u wx hb hd
      have hz := hb.size
      (try simp only [World.size_alloc, World.size_setCell] at hz)
      have hz0 : w.heap.size < wx.heap.size := by omega
      obtain ⟨hc, hf⟩ := bcell hb
      have HBX := Lib.hid hb
      clear hb hz
      simp [depsS, Region.binds, updS, Stay.is, Stay.any] at hd
      go_simp
      first | rfl | (go_at_call 13; refine (Check_any _ np nf P F _ (HM.out.below (below_step hBw1 HBX.out))).mono ?_; rintro e w1 ⟨rfl, hb1⟩; first | exact ⟨rfl, hb1⟩ | exact ⟨_, rfl, hb1, rfl⟩)
    apply rel_is
    · intro u wx hb hd
      have hz := hb.size
      (try simp only [World.size_alloc, World.size_setCell] at hz)
      have hz0 : w.heap.size < wx.heap.size := by omega
      obtain ⟨hc, hf⟩ := bcell hb
      have HBX := Lib.hid hb
      clear hb hz
      simp [depsS, Region.binds, updS, Stay.is, Stay.any] at hd
      go_simp
      first | exact ⟨Below.refl _ _, rfl⟩ | rfl
    apply rel_is
    · intro u wx hb hd
      have hz := hb.size
      (try simp only [World.size_alloc, World.size_setCell] at hz)
      have hz0 : w.heap.size < wx.heap.size := by omega
      obtain ⟨hc, hf⟩ := bcell hb
      have HBX := Lib.hid hb
      clear hb hz
      simp [depsS, Region.binds, updS, Stay.is, Stay.any] at hd
      go_simp
      first | rfl | (go_at_call 14; refine (rCheck_any _ np nf P F _ (HM.out.below (below_step hBw1 HBX.out))).mono ?_; rintro e w1 ⟨rfl, hb1⟩; first | exact ⟨rfl, hb1⟩ | exact ⟨_, rfl, hb1, rfl⟩)
    iterate 2
      apply rel_is
      · intro u wx hb hd
        have hz := hb.size
        (try simp only [World.size_alloc, World.size_setCell] at hz)
        have hz0 : w.heap.size < wx.heap.size := by omega
        obtain ⟨hc, hf⟩ := bcell hb
        have HBX := Lib.hid hb
        clear hb hz
        simp [depsS, Region.binds, updS, Stay.is, Stay.any] at hd
        go_simp
        first | exact ⟨Below.refl _ _, rfl⟩ | rfl
    apply rel_is
    · intro u wx hb hd
      have hz := hb.size
      (try simp only [World.size_alloc, World.size_setCell] at hz)
      have hz0 : w.heap.size < wx.heap.size := by omega
      obtain ⟨hc, hf⟩ := bcell hb
      have HBX := Lib.hid hb
      clear hb hz
      simp [depsS, Region.binds, updS, Stay.is, Stay.any] at hd
      go_simp
      first | rfl | (go_at_call 12; refine (awake_any _).mono ?_; rintro e w1 ⟨rfl, hb1⟩; first | exact ⟨rfl, hb1⟩ | exact ⟨_, rfl, hb1, rfl⟩)
    apply rel_is
    · intro u wx hb hd
      have hz := hb.size
      (try simp only [World.size_alloc, World.size_setCell] at hz)
      have hz0 : w.heap.size < wx.heap.size := by omega
      obtain ⟨hc, hf⟩ := bcell hb
      have HBX := Lib.hid hb
      clear hb hz
      simp [depsS, Region.binds, updS, Stay.is, Stay.any] at hd
      go_simp
      first | exact ⟨Below.refl _ _, rfl⟩ | rfl
    intro u w5 hb hE
    have e0 : u 0 = _ := endS_get hE 0 (by decide)
    have e1 : u 1 = _ := endS_get hE 1 (by decide)
    have e2 : u 2 = _ := endS_get hE 2 (by decide)
    have e3 : u 3 = _ := endS_get hE 3 (by decide)
    have e4 : u 4 = _ := endS_get hE 4 (by decide)
    have e5 : u 5 = _ := endS_get hE 5 (by decide)
    have e6 : u 6 = _ := endS_get hE 6 (by decide)
    have e7 : u 7 = _ := endS_get hE 7 (by decide)
    simp only [List.drop_succ_cons, List.drop_zero, List.take_succ_cons, List.take_zero, fillL, Act.put, List.setIfInBounds_toArray, List.set_cons_zero, List.set_cons_succ, e0, e1, e2, e3, e4, e5, e6, e7]
    clear e0 e1 e2 e3 e4 e5 e6 e7 hE
    have HBw5 := Lib.hid (below_step (w := w1) (by first | assumption | go_grown) hb)
    have HBXw5 := Lib.hid hb
    have hzw5 := hb.size
    (try simp only [World.size_alloc, World.size_setCell] at hzw5)
    have hzw50 : w.heap.size < w5.heap.size := by omega
    obtain ⟨hcw5, hfw5⟩ := bcell hb
    clear hb hzw5
    go_wp2
    go_returns
    exact ⟨rfl, below_step hBw1 HBw5.out⟩

set_option maxRecDepth 100000 in
theorem meshChecks_contract (H : Type) (enc : TypeId × Value → H) (W : World) (base : Nat) (args : Array Value) (ds gs : List (DataW H)) (before : List MemPlace)
    (hval : ∀ (j : Nat) t v, Try.f3.params[j]? = some t → args[j]? = some v → Value.okWide Try.prog W .any base t v)
    (hW : DataW.Whole enc Try.prog Try.f3.params.toList Rows.meshChecksSpec.vars false W args.toList ds gs before) (hL : laidMetH Try.prog Rows.meshChecksRow.laid W) (hSh : W.ShapedOpen Try.prog) :
    Calls Try.prog 3 args W fun e W' => ∃ v, e = .returned v ∧ Rows.meshChecksSpec.post enc Try.prog Try.f3 false true false false W args v W' := by
  have hW' := hW
  obtain ⟨p, q, hA0, hV, rfl, hfz, hnd⟩ := hW
  have hA : DataW.TrodAll enc Try.prog W 0 (fun _ => true) true Try.f3.params.toList args.toList ds p := hA0
  rw [Try.params3] at hA hval
  obtain ⟨v0, vs0, d0, ds0, p0, q0, hargs, rfl, rfl, h0, r0⟩ := trodAll_cons hA
  obtain ⟨rfl, rfl, rfl⟩ := trodAll_nil r0
  obtain rfl : args = #[v0] := by cases args; simp_all
  obtain ⟨np, P, nf, F, hm⟩ := mesh_arg (hval 0 25 v0 rfl rfl) h0
  refine (meshChecks_walk _ np nf P F W hm).mono fun e W' ⟨he, hb⟩ => ?_
  subst he
  exact ⟨_, rfl, law_post laidOut (by kernel_rfl) (by kernel_rfl) Try.underlying4 rfl hW' (fun _ => rfl) hb⟩
theorem meshChecks_reads (os : Os) {H : Type} (enc : TypeId × Value → H) : ∃ places, DataW.whole enc Try.prog ((World.settled Try.prog os).forCall (fun _ _ => 0) ⟨#[], #[.agg #[.slice none 0 0, .slice none 0 0]], []⟩).memory Try.f3.params.toList Rows.meshChecksSpec.vars false (#[.agg #[.slice none 0 0, .slice none 0 0]] : Array Value).toList 8 = some ([.agg [.nil, .nil]], [], places) := ⟨[], by kernel_rfl⟩
set_option maxRecDepth 100000 in
theorem meshChecks_lifted (os : Os) (started : os.Started) (H : Type) (enc : TypeId × Value → H) (F : Stop.Interp) :
    ReturnsInHanded {} Try.checked os 3 .any ((OpenSpec.ofChange Rows.meshChecksSpec).preRow enc Try.prog Try.f3 Rows.meshChecksRow.domain false Rows.meshChecksRow.laid) (((OpenSpec.ofChange Rows.meshChecksSpec).at F).post enc Try.prog Try.f3 false true false false) := by
  obtain ⟨places, hx⟩ := meshChecks_reads os enc
  refine returnsInHanded_of_row (C := Try.checked) (s := OpenSpec.ofChange Rows.meshChecksSpec) own started (by kernel_rfl) Try.func3
    (witness_row_at (enc := enc) (C := Try.checked) false (World.settled Try.prog os) #[.agg #[.slice none 0 0, .slice none 0 0]] rfl (by kernel_rfl) (by kernel_rfl) (by kernel_rfl)
      (OpenSpec.preRow_of_cond 8 hx (by kernel_rfl) (fun k hk => by cases hk) (by kernel_rfl) (laidMet_nil _ _))) ?_
  intro W base args ds gs before hval hW _ _ _ hL hSh _
  exact meshChecks_contract H enc W base args ds gs before hval hW hL hSh
theorem meshChecks_said : Rows.MeshChecksSaid :=
  OpenClaim.holds_of_cond 3 Try.f3 rfl rfl rfl rfl rfl rfl rfl ⟨rfl, rfl, rfl, rfl, rfl⟩ rfl rfl rfl rfl rfl (by kernel_rfl) Try.func3 (by kernel_rfl)
    (of_decide_eq_true (by kernel_rfl)) (by unfold Func.isWrapper; rw [if_neg (of_decide_eq_false (by kernel_rfl))]; exact ⟨rfl, rfl⟩)
    (fun os started H enc _ F => by rw [OpenClaim.pre_eq_preRow]; exact meshChecks_lifted os started H enc F)
#print axioms meshChecks_said
end Go.Proofs.Ytpjdmjmgkdgfnaa
