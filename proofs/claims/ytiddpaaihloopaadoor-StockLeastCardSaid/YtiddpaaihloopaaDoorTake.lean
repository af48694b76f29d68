/-
  Taking from a shelf of plates or bars, by walks. Conditions: an ascending shelf, at most 10^6 elements. By an AI agent.
-/
import Derived.Test.YtiddpaaihloopaaDoorAdd
namespace Go.Proofs.YtiddpaaihloopaaDoor
open Go Go.ChangeShapes Go.WideShapes Go.RowKit Go.ChangeAt
set_option linter.unusedVariables false
set_option linter.unusedSimpArgs false
set_option maxRecDepth 100000
theorem owns_set {w : World} {B : Nat} {t : TypeId} {k n : Nat} {v : Value} {xs : List Value} (h : w.ownsRow B t k v n xs) (b i : Nat) (u : Value) (hb : b < B) : (w.setCell ⟨b, i, none⟩ u).ownsRow B t k v n xs := by
  refine ⟨h.1, ?_⟩
  rcases h.2 with h0 | ⟨g, cap, cur, h1, h2, h3, h4⟩
  · exact .inl h0
  · exact .inr ⟨g, cap, cur, h1, h2, by rw [heapS_other _ _ _ _ _ (by omega)]; exact h3, h4⟩
def takeE {α : Type} (f : α → ByteArray) (e : Nat → α) (n : Nat) (s : ByteArray) : Int := if foundB f e n s = true then 0 else 8
def takeV {α : Type} (f : α → ByteArray) (z : α) (e : Nat → α) (n : Nat) (s : ByteArray) : α := if foundB f e n s = true then e (placeI f e n s) else z

set_option maxHeartbeats 4000000 in
theorem take_Sheet (v : Value) (n : Nat) (e : Nat → Sh) (s : ByteArray) (w : World) (h : ShAt w v n e) (ha : AscB Sh.id e n) (hn : n ≤ 1000000) :
    Calls Tryd.prog 39 #[.agg #[v, .func (.func 42) #[] #[]], .string s] w fun e' w' => ∃ v', e' = .returned (.tuple #[v', (takeV Sh.id Sh.none e n s).val, .int .i64 (takeE Sh.id e n s)]) ∧ ShAt w' v' (if takeE Sh.id e n s = 0 then n - 1 else 0) (delF e (placeI Sh.id e n s)) ∧ NewFrom w.heap.size v' ∧ Below w.heap.size w w' := by
  have HAT := Lib.hid h
  have HASC := Lib.hid ha
  obtain ⟨oa, cap, rfl, hnc, hcm, hel⟩ := h.form
  have HEL := Lib.hid hel
  have HNN : Hid (oa = none → n = 0) := fun h0 => by
    rcases Nat.eq_zero_or_pos n with hz | hz
    · exact hz
    · obtain ⟨b, off, hq, _⟩ := hel 0 hz
      rw [h0] at hq; cases hq
  have hflat : ∀ wx, Below w.heap.size w wx → ∀ ad, oa = some ad → ∀ j u, (flatL Sh.enc (rowL e n))[j]? = some u → wx.cell? (ad.add j) = some u := fun wx hb ad had j u hj => by
    have hnz : 0 < n := by
      rcases Nat.eq_zero_or_pos n with hz | hz
      · subst hz; simp [flatL, rowL] at hj
      · exact hz
    obtain ⟨b, off, hq, _⟩ := hel 0 hnz
    rw [had] at hq
    cases hq
    subst had
    rw [Addr.add_lit]
    exact (HAT.out.below hb).flat j u hj
  have HFL := Lib.hid hflat
  clear h ha hel hflat hnc hcm
  obtain ⟨I, hI⟩ : ∃ I, placeI Sh.id e n s = I := ⟨_, rfl⟩
  obtain ⟨F, hF⟩ : ∃ F, foundB Sh.id e n s = F := ⟨_, rfl⟩
  have HI := Lib.hid hI
  have HF := Lib.hid hF
  obtain ⟨EE, hEE⟩ : ∃ EE, takeE Sh.id e n s = EE := ⟨_, rfl⟩
  have HEE : Hid ((if F = true then (0 : Int) else 8) = EE) := by show _ = EE; rw [← hEE, ← hF]; rfl
  obtain ⟨NN, hNN⟩ : ∃ NN, (if takeE Sh.id e n s = 0 then n - 1 else 0) = NN := ⟨_, rfl⟩
  have HN := Lib.hid hNN
  obtain ⟨X, hX⟩ : ∃ X, takeV Sh.id Sh.none e n s = X := ⟨_, rfl⟩
  have HX : Hid ((if F = true then e I else Sh.none) = X) := by show _ = X; rw [← hX, ← hF, ← hI]; rfl
  rw [hNN, hX, hEE, hI]
  rw [hEE] at HN
  clear hI hF hEE hNN hX
  go_enter Tryd.func39, Tryd.ntmps39
  go_wp2_with fail
  (go_at_call 54; refine (place_Sheet _ n e s _ (HAT.out.below (by go_grown)) HASC.out hn).mono ?_; rintro e' w1 ⟨rfl, hb⟩)
  rw [HF.out, HI.out]
  have HBw1 : Hid (Below w.heap.size w w1) := by
    show Below _ _ _
    exact below_step (w := w) (by go_grown) hb
  have hs1 := hb.size
  (try simp only [World.size_alloc, World.size_setCell] at hs1)
  have hz10 : w.heap.size < w1.heap.size := by omega
  have hz11 : w.heap.size + 1 < w1.heap.size := by omega
  have s0w1 : w1.cell? ⟨w.heap.size, 0, none⟩ = some (.slice oa n cap) := (hb.cell (p := ⟨_, _, none⟩) (by simp <;> omega)).trans (by simp [go_sem])
  have r0w1 : w1.cell? ⟨w.heap.size + 1, 0, none⟩ = some (.string ⟨#[]⟩) := (hb.cell (p := ⟨_, _, none⟩) (by simp <;> omega)).trans (by simp [go_sem])
  have rf0w1 : w1.frozen? ⟨w.heap.size + 1, 0, none⟩ = false := (hb.frozen (p := ⟨_, _, none⟩) (by simp <;> omega)).trans (by simp [go_sem])
  have r1w1 : w1.cell? ⟨w.heap.size + 1, 1, none⟩ = some (.string ⟨#[]⟩) := (hb.cell (p := ⟨_, _, none⟩) (by simp <;> omega)).trans (by simp [go_sem])
  have rf1w1 : w1.frozen? ⟨w.heap.size + 1, 1, none⟩ = false := (hb.frozen (p := ⟨_, _, none⟩) (by simp <;> omega)).trans (by simp [go_sem])
  have r2w1 : w1.cell? ⟨w.heap.size + 1, 2, none⟩ = some (.int .i64 0) := (hb.cell (p := ⟨_, _, none⟩) (by simp <;> omega)).trans (by simp [go_sem])
  have rf2w1 : w1.frozen? ⟨w.heap.size + 1, 2, none⟩ = false := (hb.frozen (p := ⟨_, _, none⟩) (by simp <;> omega)).trans (by simp [go_sem])
  have r3w1 : w1.cell? ⟨w.heap.size + 1, 3, none⟩ = some (.int .i64 0) := (hb.cell (p := ⟨_, _, none⟩) (by simp <;> omega)).trans (by simp [go_sem])
  have rf3w1 : w1.frozen? ⟨w.heap.size + 1, 3, none⟩ = false := (hb.frozen (p := ⟨_, _, none⟩) (by simp <;> omega)).trans (by simp [go_sem])
  have r4w1 : w1.cell? ⟨w.heap.size + 1, 4, none⟩ = some (.int .i64 0) := (hb.cell (p := ⟨_, _, none⟩) (by simp <;> omega)).trans (by simp [go_sem])
  have rf4w1 : w1.frozen? ⟨w.heap.size + 1, 4, none⟩ = false := (hb.frozen (p := ⟨_, _, none⟩) (by simp <;> omega)).trans (by simp [go_sem])
  have r5w1 : w1.cell? ⟨w.heap.size + 1, 5, none⟩ = some (.string ⟨#[]⟩) := (hb.cell (p := ⟨_, _, none⟩) (by simp <;> omega)).trans (by simp [go_sem])
  have rf5w1 : w1.frozen? ⟨w.heap.size + 1, 5, none⟩ = false := (hb.frozen (p := ⟨_, _, none⟩) (by simp <;> omega)).trans (by simp [go_sem])
  clear hs1 hb
  by_cases hf : F = true
  · have h9 : (EE = 0 ∧ NN = n - 1) ∧ X = e I := by
      have h1 : EE = 0 := by rw [← HEE.out, if_pos hf]
      exact ⟨⟨h1, by rw [← HN.out, if_pos h1]⟩, by rw [← HX.out, if_pos hf]⟩
    have HE9 := Lib.hid h9
    have hIlt : I < n := by
      have h2 := HF.out.trans hf
      unfold foundB at h2
      rw [HI.out] at h2
      simp only [Bool.and_eq_true, decide_eq_true_eq] at h2
      exact h2.1
    subst hf
    clear h9
    obtain ⟨b1, f1, rfl, hbl1, hcl1⟩ := HEL.out I hIlt
    obtain ⟨y, hy⟩ : ∃ y, e I = y := ⟨_, rfl⟩
    have c0 : w1.cell? ⟨b1, f1 + I * 6, none⟩ = some (.string y.id) := by rw [← hy]; exact (HBw1.out.cell (p := ⟨_, _, none⟩) hbl1).trans (hcl1 I hIlt).1
    have c1 : w1.cell? ⟨b1, f1 + I * 6 + 1, none⟩ = some (.string y.grade) := by rw [← hy]; exact (HBw1.out.cell (p := ⟨_, _, none⟩) hbl1).trans (hcl1 I hIlt).2.1
    have c2 : w1.cell? ⟨b1, f1 + I * 6 + 2, none⟩ = some (.int .i64 y.thick) := by rw [← hy]; exact (HBw1.out.cell (p := ⟨_, _, none⟩) hbl1).trans (hcl1 I hIlt).2.2.1
    have c3 : w1.cell? ⟨b1, f1 + I * 6 + 3, none⟩ = some (.int .i64 y.len) := by rw [← hy]; exact (HBw1.out.cell (p := ⟨_, _, none⟩) hbl1).trans (hcl1 I hIlt).2.2.2.1
    have c4 : w1.cell? ⟨b1, f1 + I * 6 + 4, none⟩ = some (.int .i64 y.wid) := by rw [← hy]; exact (HBw1.out.cell (p := ⟨_, _, none⟩) hbl1).trans (hcl1 I hIlt).2.2.2.2.1
    have c5 : w1.cell? ⟨b1, f1 + I * 6 + 5, none⟩ = some (.string y.heat) := by rw [← hy]; exact (HBw1.out.cell (p := ⟨_, _, none⟩) hbl1).trans (hcl1 I hIlt).2.2.2.2.2
    have hbr : b1 < w1.heap.size := by have := HBw1.out.size; omega
    obtain ⟨id', grade', thick', len', wid', heat'⟩ := y
    have HY := Lib.hid hy
    clear hcl1 hy
    dsimp only at c0 c1 c2 c3 c4 c5
    have k1 : IntKind.i64.wrap ((I : Int) + 1) = (I : Int) + 1 := IntWalk.i64_in _ (by omega)
    go_wp2_with fail
    refine wp_region_relc 13 2 6 (by kernel_rfl) (by kernel_rfl) (by kernel_rfl) (by decide) ?_
    simp only [List.take_succ_cons, List.take_zero, fillL, Act.put, List.setIfInBounds_toArray, List.set_cons_zero, List.set_cons_succ]
    apply relc_is (by decide)
    · intro u wx hb hd
      have hz := hb.size
      (try simp only [World.size_alloc, World.size_setCell] at hz)
      have hz0 : w.heap.size < wx.heap.size := by omega
      have hz1 : w.heap.size + 1 < wx.heap.size := by omega
      have hz2 : b1 < wx.heap.size := by omega
      obtain ⟨hc, hf⟩ := bcell hb
      have HBX := Lib.hid hb
      clear hb hz
      simp [depsC, Region.binds, updS, Stay.is, Stay.any] at hd
      go_simp
      first | exact ⟨Below.refl _ _, rfl⟩ | rfl
    apply relc_is (by decide)
    · intro u wx hb hd
      have hz := hb.size
      (try simp only [World.size_alloc, World.size_setCell] at hz)
      have hz0 : w.heap.size < wx.heap.size := by omega
      have hz1 : w.heap.size + 1 < wx.heap.size := by omega
      have hz2 : b1 < wx.heap.size := by omega
      obtain ⟨hc, hf⟩ := bcell hb
      have HBX := Lib.hid hb
      clear hb hz
      simp [depsC, Region.binds, updS, Stay.is, Stay.any] at hd
      go_simp
      first | exact ⟨Below.refl _ _, rfl⟩ | rfl
    refine relc_made (Stay.owns w1.heap.size 38 6 n (flatL Sh.enc (rowL e n))) (by decide) ?_ ?_
    · intro u wx hb hd
      have hz := hb.size
      (try simp only [World.size_alloc, World.size_setCell] at hz)
      have hz0 : w.heap.size < wx.heap.size := by omega
      have hz1 : w.heap.size + 1 < wx.heap.size := by omega
      have hz2 : b1 < wx.heap.size := by omega
      obtain ⟨hc, hf⟩ := bcell hb
      have HBX := Lib.hid hb
      clear hb hz
      simp [depsC, Region.binds, updS, Stay.is, Stay.any] at hd
      refine ⟨by simp [Region.wanted], ?_⟩
      go_simp
      (go_at_call 56; refine (clone_Sheet (some ⟨b1, f1, none⟩) n cap (flatL Sh.enc (rowL e n)) wx (by rw [flatL_len Sh.enc_len, rowL_len]) hn HNN.out (fun ad had j u hj => (HFL.out _ (below_step HBw1.out HBX.out)) ad had j u hj) (flatL_one Sh.enc_one _)).mono ?_; rintro e' w2 ⟨v', rfl, ho, hb1⟩)
      exact ⟨_, rfl, hb1, owns_base ho (by have := HBX.out.size; omega)⟩
    apply relc_is (by decide)
    · intro u wx hb hd
      have hz := hb.size
      (try simp only [World.size_alloc, World.size_setCell] at hz)
      have hz0 : w.heap.size < wx.heap.size := by omega
      have hz1 : w.heap.size + 1 < wx.heap.size := by omega
      have hz2 : b1 < wx.heap.size := by omega
      obtain ⟨hc, hf⟩ := bcell hb
      have HBX := Lib.hid hb
      clear hb hz
      simp [depsC, Region.binds, updS, Stay.is, Stay.any] at hd
      go_simp
      first | exact ⟨Below.refl _ _, rfl⟩ | rfl
    apply relc_is (by decide)
    · intro u wx hb hd
      have hz := hb.size
      (try simp only [World.size_alloc, World.size_setCell] at hz)
      have hz0 : w.heap.size < wx.heap.size := by omega
      have hz1 : w.heap.size + 1 < wx.heap.size := by omega
      have hz2 : b1 < wx.heap.size := by omega
      obtain ⟨hc, hf⟩ := bcell hb
      have HBX := Lib.hid hb
      clear hb hz
      simp [depsC, Region.binds, updS, Stay.is, Stay.any] at hd
      go_simp
      first | exact ⟨Below.refl _ _, rfl⟩ | rfl
    apply relc_is (by decide)
    · intro u wx hb hd
      have hz := hb.size
      (try simp only [World.size_alloc, World.size_setCell] at hz)
      have hz0 : w.heap.size < wx.heap.size := by omega
      have hz1 : w.heap.size + 1 < wx.heap.size := by omega
      have hz2 : b1 < wx.heap.size := by omega
      obtain ⟨hc, hf⟩ := bcell hb
      have HBX := Lib.hid hb
      clear hb hz
      simp [depsC, Region.binds, updS, Stay.is, Stay.any] at hd
      go_simp
      first | exact ⟨Below.refl _ _, rfl⟩ | rfl
    refine relc_write (Stay.owns w1.heap.size 38 6 (n - 1) ((flatL Sh.enc (rowL e n)).take (I * 6) ++ (flatL Sh.enc (rowL e n)).drop ((I + 1) * 6))) ?_ ?_
    · intro u wx hb hd
      have hz := hb.size
      (try simp only [World.size_alloc, World.size_setCell] at hz)
      have hz0 : w.heap.size < wx.heap.size := by omega
      have hz1 : w.heap.size + 1 < wx.heap.size := by omega
      have hz2 : b1 < wx.heap.size := by omega
      obtain ⟨hc, hf⟩ := bcell hb
      have HBX := Lib.hid hb
      clear hb hz
      simp [depsC, Region.binds, updS, Stay.is, Stay.any] at hd
      refine ⟨by simp [Region.wanted], ?_⟩
      obtain ⟨hown, hd⟩ := hd
      obtain ⟨v2, hv2⟩ : ∃ v2, u 2 = v2 := ⟨_, rfl⟩
      replace hown : wx.ownsRow w1.heap.size 38 6 v2 n (flatL Sh.enc (rowL e n)) := by rw [← hv2]; exact hown
      have HOWN := Lib.hid hown
      clear hown
      go_simp
      (go_at_call 58; refine (delete_Sheet w1.heap.size _ n I (flatL Sh.enc (rowL e n)) wx HOWN.out hIlt (flatL_one Sh.enc_one _) hn).mono ?_; rintro e' w2 ⟨v', rfl, ho, hb1⟩)
      exact ⟨_, rfl, hb1, ho⟩
    apply relc_is (by decide)
    · intro u wx hb hd
      have hz := hb.size
      (try simp only [World.size_alloc, World.size_setCell] at hz)
      have hz0 : w.heap.size < wx.heap.size := by omega
      have hz1 : w.heap.size + 1 < wx.heap.size := by omega
      have hz2 : b1 < wx.heap.size := by omega
      obtain ⟨hc, hf⟩ := bcell hb
      have HBX := Lib.hid hb
      clear hb hz
      simp [depsC, Region.binds, updS, Stay.is, Stay.any] at hd
      go_simp
      first | exact ⟨Below.refl _ _, rfl⟩ | rfl
    apply relc_is (by decide)
    · intro u wx hb hd
      have hz := hb.size
      (try simp only [World.size_alloc, World.size_setCell] at hz)
      have hz0 : w.heap.size < wx.heap.size := by omega
      have hz1 : w.heap.size + 1 < wx.heap.size := by omega
      have hz2 : b1 < wx.heap.size := by omega
      obtain ⟨hc, hf⟩ := bcell hb
      have HBX := Lib.hid hb
      clear hb hz
      simp [depsC, Region.binds, updS, Stay.is, Stay.any] at hd
      go_simp
      first | exact ⟨Below.refl _ _, rfl⟩ | rfl
    apply relc_is (by decide)
    · intro u wx hb hd
      have hz := hb.size
      (try simp only [World.size_alloc, World.size_setCell] at hz)
      have hz0 : w.heap.size < wx.heap.size := by omega
      have hz1 : w.heap.size + 1 < wx.heap.size := by omega
      have hz2 : b1 < wx.heap.size := by omega
      obtain ⟨hc, hf⟩ := bcell hb
      have HBX := Lib.hid hb
      clear hb hz
      simp [depsC, Region.binds, updS, Stay.is, Stay.any] at hd
      go_simp
      first | exact ⟨Below.refl _ _, rfl⟩ | rfl
    apply relc_is (by decide)
    · intro u wx hb hd
      have hz := hb.size
      (try simp only [World.size_alloc, World.size_setCell] at hz)
      have hz0 : w.heap.size < wx.heap.size := by omega
      have hz1 : w.heap.size + 1 < wx.heap.size := by omega
      have hz2 : b1 < wx.heap.size := by omega
      obtain ⟨hc, hf⟩ := bcell hb
      have HBX := Lib.hid hb
      clear hb hz
      simp [depsC, Region.binds, updS, Stay.is, Stay.any] at hd
      go_simp
      first | exact ⟨Below.refl _ _, rfl⟩ | rfl
    apply relc_is (by decide)
    · intro u wx hb hd
      have hz := hb.size
      (try simp only [World.size_alloc, World.size_setCell] at hz)
      have hz0 : w.heap.size < wx.heap.size := by omega
      have hz1 : w.heap.size + 1 < wx.heap.size := by omega
      have hz2 : b1 < wx.heap.size := by omega
      obtain ⟨hc, hf⟩ := bcell hb
      have HBX := Lib.hid hb
      clear hb hz
      simp [depsC, Region.binds, updS, Stay.is, Stay.any] at hd
      go_simp
      first | exact ⟨Below.refl _ _, rfl⟩ | rfl
    refine relc_after (Stay.owns w1.heap.size 38 6 (n - 1) ((flatL Sh.enc (rowL e n)).take (I * 6) ++ (flatL Sh.enc (rowL e n)).drop ((I + 1) * 6))) (by decide) (by kernel_rfl) ?_ ?_
    · intro u wx hb hd
      have hz := hb.size
      (try simp only [World.size_alloc, World.size_setCell] at hz)
      have hz0 : w.heap.size < wx.heap.size := by omega
      have hz1 : w.heap.size + 1 < wx.heap.size := by omega
      have hz2 : b1 < wx.heap.size := by omega
      obtain ⟨hc, hf⟩ := bcell hb
      have HBX := Lib.hid hb
      clear hb hz
      simp [depsC, Region.binds, updS, Stay.is, Stay.any] at hd
      refine ⟨by simp [Region.wanted], ?_⟩
      go_simp
      first | exact Below.refl _ _ | exact ⟨Below.refl _ _, hd.1⟩
    intro u w6 hb hE
    have e0 : u 0 = _ := endS_get hE 0 (by decide)
    have e1 : u 1 = _ := endS_get hE 1 (by decide)
    have e3 : u 3 = _ := endS_get hE 3 (by decide)
    have e4 : u 4 = _ := endS_get hE 4 (by decide)
    have e5 : u 5 = _ := endS_get hE 5 (by decide)
    have hO6 : w6.ownsRow _ _ _ (u 6) _ _ := endS_get hE 6 (by decide)
    obtain ⟨v6, hv6⟩ : ∃ v6, u 6 = v6 := ⟨_, rfl⟩
    rw [hv6] at hO6
    have HO6 := Lib.hid hO6
    clear hO6
    have e7 : u 7 = _ := endS_get hE 7 (by decide)
    have e8 : u 8 = _ := endS_get hE 8 (by decide)
    have e9 : u 9 = _ := endS_get hE 9 (by decide)
    have e10 : u 10 = _ := endS_get hE 10 (by decide)
    have e11 : u 11 = _ := endS_get hE 11 (by decide)
    have hO12 : w6.ownsRow _ _ _ (u 12) _ _ := endS_get hE 12 (by decide)
    obtain ⟨v12, hv12⟩ : ∃ v12, u 12 = v12 := ⟨_, rfl⟩
    rw [hv12] at hO12
    have HO12 := Lib.hid hO12
    clear hO12
    simp only [List.drop_succ_cons, List.drop_zero, List.take_succ_cons, List.take_zero, fillL, Act.put, List.setIfInBounds_toArray, List.set_cons_zero, List.set_cons_succ, e0, e1, e3, e4, e5, hv6, e7, e8, e9, e10, e11, hv12]
    clear e0 e1 e3 e4 e5 hv6 e7 e8 e9 e10 e11 hv12 hE
    have HBw6 := Lib.hid (below_step (w := w1) (by first | assumption | go_grown) hb)
    have HBXw6 := Lib.hid hb
    have hzw6 := hb.size
    (try simp only [World.size_alloc, World.size_setCell] at hzw6)
    have hzw60 : w.heap.size < w6.heap.size := by omega
    have hzw61 : w.heap.size + 1 < w6.heap.size := by omega
    have hzw62 : b1 < w6.heap.size := by omega
    obtain ⟨hcw6, hfw6⟩ := bcell hb
    clear hb hzw6
    have hAt : Hid (∀ w', w'.ownsRow w1.heap.size 38 6 v12 (n - 1) ((flatL Sh.enc (rowL e n)).take (I * 6) ++ (flatL Sh.enc (rowL e n)).drop ((I + 1) * 6)) → ShAt w' v12 (n - 1) (delF e I)) := fun w' ho => by
      refine owns_sh (t := 38) (B := w1.heap.size) ?_
      rw [rowL_del e hIlt, flatL_append, ← flatL_take Sh.enc_len, ← flatL_drop Sh.enc_len]
      exact ho
    go_wp2
    all_goals (refine bodyPost_ret (v := .tuple #[v12, .agg #[.string id', .string grade', .int .i64 thick', .int .i64 len', .int .i64 wid', .string heat'], .int .i64 0]) (by simp [results, Tryd.results39, go_sem, *]) rfl ?_)
    rw [HE9.out.1.1, HE9.out.1.2, HE9.out.2, HY.out]
    refine ⟨v12, rfl, hAt.out _ ?_, (owns_new HO12.out).mono (by omega), ?_⟩
    · exact owns_set (owns_set (owns_set (owns_set (owns_set (owns_set (HO12.out) _ _ _ (by omega)) _ _ _ (by omega)) _ _ _ (by omega)) _ _ _ (by omega)) _ _ _ (by omega)) _ _ _ (by omega)
    · exact (((((((below_step HBw1.out HBw6.out)).setCell (show w.heap.size ≤ w.heap.size + 1 by omega) _).setCell (show w.heap.size ≤ w.heap.size + 1 by omega) _).setCell (show w.heap.size ≤ w.heap.size + 1 by omega) _).setCell (show w.heap.size ≤ w.heap.size + 1 by omega) _).setCell (show w.heap.size ≤ w.heap.size + 1 by omega) _).setCell (show w.heap.size ≤ w.heap.size + 1 by omega) _
  · have hf : F = false := by simpa using hf
    have h9 : (EE = 8 ∧ NN = 0) ∧ X = Sh.none := by
      have h1 : EE = 8 := by rw [← HEE.out, if_neg (by rw [hf]; decide)]
      exact ⟨⟨h1, by rw [← HN.out, if_neg (by rw [h1]; decide)]⟩, by rw [← HX.out, if_neg (by rw [hf]; decide)]⟩
    have HE9 := Lib.hid h9
    subst hf
    clear h9
    go_wp2_with fail
    refine wp_region_relw 2 (by kernel_rfl) (by kernel_rfl) (by kernel_rfl) ?_
    simp only [List.take_succ_cons, List.take_zero, fillL, Act.put, List.setIfInBounds_toArray, List.set_cons_zero, List.set_cons_succ]
    apply rel_is
    · intro u wx hb hd
      have hz := hb.size
      (try simp only [World.size_alloc, World.size_setCell] at hz)
      have hz0 : w.heap.size < wx.heap.size := by omega
      have hz1 : w.heap.size + 1 < wx.heap.size := by omega
      have hz2 : w1.heap.size < wx.heap.size := by omega
      obtain ⟨hc, hf⟩ := bcell hb
      have HBX := Lib.hid hb
      clear hb hz
      simp [depsS, Region.binds, updS, Stay.is, Stay.any] at hd
      go_simp
      first | exact ⟨Below.refl _ _, rfl⟩ | rfl
    apply rel_is
    · intro u wx hb hd
      have hz := hb.size
      (try simp only [World.size_alloc, World.size_setCell] at hz)
      have hz0 : w.heap.size < wx.heap.size := by omega
      have hz1 : w.heap.size + 1 < wx.heap.size := by omega
      have hz2 : w1.heap.size < wx.heap.size := by omega
      obtain ⟨hc, hf⟩ := bcell hb
      have HBX := Lib.hid hb
      clear hb hz
      simp [depsS, Region.binds, updS, Stay.is, Stay.any] at hd
      go_simp
      first | exact ⟨Below.refl _ _, rfl⟩ | rfl
    intro u w6 hb hE
    have e0 : u 0 = _ := endS_get hE 0 (by decide)
    have e1 : u 1 = _ := endS_get hE 1 (by decide)
    simp only [List.drop_succ_cons, List.drop_zero, List.take_succ_cons, List.take_zero, fillL, Act.put, List.setIfInBounds_toArray, List.set_cons_zero, List.set_cons_succ, e0, e1]
    clear e0 e1 hE
    have HBw6 := Lib.hid (below_step (w := w1) (by first | assumption | go_grown) hb)
    have HBXw6 := Lib.hid hb
    have hzw6 := hb.size
    (try simp only [World.size_alloc, World.size_setCell] at hzw6)
    have hzw60 : w.heap.size < w6.heap.size := by omega
    have hzw61 : w.heap.size + 1 < w6.heap.size := by omega
    have hzw62 : w1.heap.size < w6.heap.size := by omega
    obtain ⟨hcw6, hfw6⟩ := bcell hb
    clear hb hzw6
    go_wp2
    all_goals (refine bodyPost_ret (v := .tuple #[.slice none 0 0, .agg #[.string ⟨#[]⟩, .string ⟨#[]⟩, .int .i64 0, .int .i64 0, .int .i64 0, .string ⟨#[]⟩], .int .i64 8]) (by simp [results, Tryd.results39, go_sem, *]) rfl ?_)
    rw [HE9.out.1.1, HE9.out.1.2, HE9.out.2]
    refine ⟨_, rfl, nil_Sheet _ _, newFrom_nil _, ?_⟩
    exact ((((((below_step HBw1.out HBw6.out).setCell (show w.heap.size ≤ w.heap.size + 1 by omega) _).setCell (show w.heap.size ≤ w.heap.size + 1 by omega) _).setCell (show w.heap.size ≤ w.heap.size + 1 by omega) _).setCell (show w.heap.size ≤ w.heap.size + 1 by omega) _).setCell (show w.heap.size ≤ w.heap.size + 1 by omega) _).setCell (show w.heap.size ≤ w.heap.size + 1 by omega) _

set_option maxHeartbeats 4000000 in
theorem take_Bar (v : Value) (n : Nat) (e : Nat → Br) (s : ByteArray) (w : World) (h : BrAt w v n e) (ha : AscB Br.id e n) (hn : n ≤ 1000000) :
    Calls Tryd.prog 41 #[.agg #[v, .func (.func 46) #[] #[]], .string s] w fun e' w' => ∃ v', e' = .returned (.tuple #[v', (takeV Br.id Br.none e n s).val, .int .i64 (takeE Br.id e n s)]) ∧ BrAt w' v' (if takeE Br.id e n s = 0 then n - 1 else 0) (delF e (placeI Br.id e n s)) ∧ NewFrom w.heap.size v' ∧ Below w.heap.size w w' := by
  have HAT := Lib.hid h
  have HASC := Lib.hid ha
  obtain ⟨oa, cap, rfl, hnc, hcm, hel⟩ := h.form
  have HEL := Lib.hid hel
  have HNN : Hid (oa = none → n = 0) := fun h0 => by
    rcases Nat.eq_zero_or_pos n with hz | hz
    · exact hz
    · obtain ⟨b, off, hq, _⟩ := hel 0 hz
      rw [h0] at hq; cases hq
  have hflat : ∀ wx, Below w.heap.size w wx → ∀ ad, oa = some ad → ∀ j u, (flatL Br.enc (rowL e n))[j]? = some u → wx.cell? (ad.add j) = some u := fun wx hb ad had j u hj => by
    have hnz : 0 < n := by
      rcases Nat.eq_zero_or_pos n with hz | hz
      · subst hz; simp [flatL, rowL] at hj
      · exact hz
    obtain ⟨b, off, hq, _⟩ := hel 0 hnz
    rw [had] at hq
    cases hq
    subst had
    rw [Addr.add_lit]
    exact (HAT.out.below hb).flat j u hj
  have HFL := Lib.hid hflat
  clear h ha hel hflat hnc hcm
  obtain ⟨I, hI⟩ : ∃ I, placeI Br.id e n s = I := ⟨_, rfl⟩
  obtain ⟨F, hF⟩ : ∃ F, foundB Br.id e n s = F := ⟨_, rfl⟩
  have HI := Lib.hid hI
  have HF := Lib.hid hF
  obtain ⟨EE, hEE⟩ : ∃ EE, takeE Br.id e n s = EE := ⟨_, rfl⟩
  have HEE : Hid ((if F = true then (0 : Int) else 8) = EE) := by show _ = EE; rw [← hEE, ← hF]; rfl
  obtain ⟨NN, hNN⟩ : ∃ NN, (if takeE Br.id e n s = 0 then n - 1 else 0) = NN := ⟨_, rfl⟩
  have HN := Lib.hid hNN
  obtain ⟨X, hX⟩ : ∃ X, takeV Br.id Br.none e n s = X := ⟨_, rfl⟩
  have HX : Hid ((if F = true then e I else Br.none) = X) := by show _ = X; rw [← hX, ← hF, ← hI]; rfl
  rw [hNN, hX, hEE, hI]
  rw [hEE] at HN
  clear hI hF hEE hNN hX
  go_enter Tryd.func41, Tryd.ntmps41
  go_wp2_with fail
  (go_at_call 59; refine (place_Bar _ n e s _ (HAT.out.below (by go_grown)) HASC.out hn).mono ?_; rintro e' w1 ⟨rfl, hb⟩)
  rw [HF.out, HI.out]
  have HBw1 : Hid (Below w.heap.size w w1) := by
    show Below _ _ _
    exact below_step (w := w) (by go_grown) hb
  have hs1 := hb.size
  (try simp only [World.size_alloc, World.size_setCell] at hs1)
  have hz10 : w.heap.size < w1.heap.size := by omega
  have hz11 : w.heap.size + 1 < w1.heap.size := by omega
  have s0w1 : w1.cell? ⟨w.heap.size, 0, none⟩ = some (.slice oa n cap) := (hb.cell (p := ⟨_, _, none⟩) (by simp <;> omega)).trans (by simp [go_sem])
  have r0w1 : w1.cell? ⟨w.heap.size + 1, 0, none⟩ = some (.string ⟨#[]⟩) := (hb.cell (p := ⟨_, _, none⟩) (by simp <;> omega)).trans (by simp [go_sem])
  have rf0w1 : w1.frozen? ⟨w.heap.size + 1, 0, none⟩ = false := (hb.frozen (p := ⟨_, _, none⟩) (by simp <;> omega)).trans (by simp [go_sem])
  have r1w1 : w1.cell? ⟨w.heap.size + 1, 1, none⟩ = some (.string ⟨#[]⟩) := (hb.cell (p := ⟨_, _, none⟩) (by simp <;> omega)).trans (by simp [go_sem])
  have rf1w1 : w1.frozen? ⟨w.heap.size + 1, 1, none⟩ = false := (hb.frozen (p := ⟨_, _, none⟩) (by simp <;> omega)).trans (by simp [go_sem])
  have r2w1 : w1.cell? ⟨w.heap.size + 1, 2, none⟩ = some (.string ⟨#[]⟩) := (hb.cell (p := ⟨_, _, none⟩) (by simp <;> omega)).trans (by simp [go_sem])
  have rf2w1 : w1.frozen? ⟨w.heap.size + 1, 2, none⟩ = false := (hb.frozen (p := ⟨_, _, none⟩) (by simp <;> omega)).trans (by simp [go_sem])
  have r3w1 : w1.cell? ⟨w.heap.size + 1, 3, none⟩ = some (.int .i64 0) := (hb.cell (p := ⟨_, _, none⟩) (by simp <;> omega)).trans (by simp [go_sem])
  have rf3w1 : w1.frozen? ⟨w.heap.size + 1, 3, none⟩ = false := (hb.frozen (p := ⟨_, _, none⟩) (by simp <;> omega)).trans (by simp [go_sem])
  have r4w1 : w1.cell? ⟨w.heap.size + 1, 4, none⟩ = some (.string ⟨#[]⟩) := (hb.cell (p := ⟨_, _, none⟩) (by simp <;> omega)).trans (by simp [go_sem])
  have rf4w1 : w1.frozen? ⟨w.heap.size + 1, 4, none⟩ = false := (hb.frozen (p := ⟨_, _, none⟩) (by simp <;> omega)).trans (by simp [go_sem])
  clear hs1 hb
  by_cases hf : F = true
  · have h9 : (EE = 0 ∧ NN = n - 1) ∧ X = e I := by
      have h1 : EE = 0 := by rw [← HEE.out, if_pos hf]
      exact ⟨⟨h1, by rw [← HN.out, if_pos h1]⟩, by rw [← HX.out, if_pos hf]⟩
    have HE9 := Lib.hid h9
    have hIlt : I < n := by
      have h2 := HF.out.trans hf
      unfold foundB at h2
      rw [HI.out] at h2
      simp only [Bool.and_eq_true, decide_eq_true_eq] at h2
      exact h2.1
    subst hf
    clear h9
    obtain ⟨b1, f1, rfl, hbl1, hcl1⟩ := HEL.out I hIlt
    obtain ⟨y, hy⟩ : ∃ y, e I = y := ⟨_, rfl⟩
    have c0 : w1.cell? ⟨b1, f1 + I * 5, none⟩ = some (.string y.id) := by rw [← hy]; exact (HBw1.out.cell (p := ⟨_, _, none⟩) hbl1).trans (hcl1 I hIlt).1
    have c1 : w1.cell? ⟨b1, f1 + I * 5 + 1, none⟩ = some (.string y.sect) := by rw [← hy]; exact (HBw1.out.cell (p := ⟨_, _, none⟩) hbl1).trans (hcl1 I hIlt).2.1
    have c2 : w1.cell? ⟨b1, f1 + I * 5 + 2, none⟩ = some (.string y.grade) := by rw [← hy]; exact (HBw1.out.cell (p := ⟨_, _, none⟩) hbl1).trans (hcl1 I hIlt).2.2.1
    have c3 : w1.cell? ⟨b1, f1 + I * 5 + 3, none⟩ = some (.int .i64 y.len) := by rw [← hy]; exact (HBw1.out.cell (p := ⟨_, _, none⟩) hbl1).trans (hcl1 I hIlt).2.2.2.1
    have c4 : w1.cell? ⟨b1, f1 + I * 5 + 4, none⟩ = some (.string y.heat) := by rw [← hy]; exact (HBw1.out.cell (p := ⟨_, _, none⟩) hbl1).trans (hcl1 I hIlt).2.2.2.2
    have hbr : b1 < w1.heap.size := by have := HBw1.out.size; omega
    obtain ⟨id', sect', grade', len', heat'⟩ := y
    have HY := Lib.hid hy
    clear hcl1 hy
    dsimp only at c0 c1 c2 c3 c4
    have k1 : IntKind.i64.wrap ((I : Int) + 1) = (I : Int) + 1 := IntWalk.i64_in _ (by omega)
    go_wp2_with fail
    refine wp_region_relc 13 2 6 (by kernel_rfl) (by kernel_rfl) (by kernel_rfl) (by decide) ?_
    simp only [List.take_succ_cons, List.take_zero, fillL, Act.put, List.setIfInBounds_toArray, List.set_cons_zero, List.set_cons_succ]
    apply relc_is (by decide)
    · intro u wx hb hd
      have hz := hb.size
      (try simp only [World.size_alloc, World.size_setCell] at hz)
      have hz0 : w.heap.size < wx.heap.size := by omega
      have hz1 : w.heap.size + 1 < wx.heap.size := by omega
      have hz2 : b1 < wx.heap.size := by omega
      obtain ⟨hc, hf⟩ := bcell hb
      have HBX := Lib.hid hb
      clear hb hz
      simp [depsC, Region.binds, updS, Stay.is, Stay.any] at hd
      go_simp
      first | exact ⟨Below.refl _ _, rfl⟩ | rfl
    apply relc_is (by decide)
    · intro u wx hb hd
      have hz := hb.size
      (try simp only [World.size_alloc, World.size_setCell] at hz)
      have hz0 : w.heap.size < wx.heap.size := by omega
      have hz1 : w.heap.size + 1 < wx.heap.size := by omega
      have hz2 : b1 < wx.heap.size := by omega
      obtain ⟨hc, hf⟩ := bcell hb
      have HBX := Lib.hid hb
      clear hb hz
      simp [depsC, Region.binds, updS, Stay.is, Stay.any] at hd
      go_simp
      first | exact ⟨Below.refl _ _, rfl⟩ | rfl
    refine relc_made (Stay.owns w1.heap.size 40 5 n (flatL Br.enc (rowL e n))) (by decide) ?_ ?_
    · intro u wx hb hd
      have hz := hb.size
      (try simp only [World.size_alloc, World.size_setCell] at hz)
      have hz0 : w.heap.size < wx.heap.size := by omega
      have hz1 : w.heap.size + 1 < wx.heap.size := by omega
      have hz2 : b1 < wx.heap.size := by omega
      obtain ⟨hc, hf⟩ := bcell hb
      have HBX := Lib.hid hb
      clear hb hz
      simp [depsC, Region.binds, updS, Stay.is, Stay.any] at hd
      refine ⟨by simp [Region.wanted], ?_⟩
      go_simp
      (go_at_call 57; refine (clone_Bar (some ⟨b1, f1, none⟩) n cap (flatL Br.enc (rowL e n)) wx (by rw [flatL_len Br.enc_len, rowL_len]) hn HNN.out (fun ad had j u hj => (HFL.out _ (below_step HBw1.out HBX.out)) ad had j u hj) (flatL_one Br.enc_one _)).mono ?_; rintro e' w2 ⟨v', rfl, ho, hb1⟩)
      exact ⟨_, rfl, hb1, owns_base ho (by have := HBX.out.size; omega)⟩
    apply relc_is (by decide)
    · intro u wx hb hd
      have hz := hb.size
      (try simp only [World.size_alloc, World.size_setCell] at hz)
      have hz0 : w.heap.size < wx.heap.size := by omega
      have hz1 : w.heap.size + 1 < wx.heap.size := by omega
      have hz2 : b1 < wx.heap.size := by omega
      obtain ⟨hc, hf⟩ := bcell hb
      have HBX := Lib.hid hb
      clear hb hz
      simp [depsC, Region.binds, updS, Stay.is, Stay.any] at hd
      go_simp
      first | exact ⟨Below.refl _ _, rfl⟩ | rfl
    apply relc_is (by decide)
    · intro u wx hb hd
      have hz := hb.size
      (try simp only [World.size_alloc, World.size_setCell] at hz)
      have hz0 : w.heap.size < wx.heap.size := by omega
      have hz1 : w.heap.size + 1 < wx.heap.size := by omega
      have hz2 : b1 < wx.heap.size := by omega
      obtain ⟨hc, hf⟩ := bcell hb
      have HBX := Lib.hid hb
      clear hb hz
      simp [depsC, Region.binds, updS, Stay.is, Stay.any] at hd
      go_simp
      first | exact ⟨Below.refl _ _, rfl⟩ | rfl
    apply relc_is (by decide)
    · intro u wx hb hd
      have hz := hb.size
      (try simp only [World.size_alloc, World.size_setCell] at hz)
      have hz0 : w.heap.size < wx.heap.size := by omega
      have hz1 : w.heap.size + 1 < wx.heap.size := by omega
      have hz2 : b1 < wx.heap.size := by omega
      obtain ⟨hc, hf⟩ := bcell hb
      have HBX := Lib.hid hb
      clear hb hz
      simp [depsC, Region.binds, updS, Stay.is, Stay.any] at hd
      go_simp
      first | exact ⟨Below.refl _ _, rfl⟩ | rfl
    refine relc_write (Stay.owns w1.heap.size 40 5 (n - 1) ((flatL Br.enc (rowL e n)).take (I * 5) ++ (flatL Br.enc (rowL e n)).drop ((I + 1) * 5))) ?_ ?_
    · intro u wx hb hd
      have hz := hb.size
      (try simp only [World.size_alloc, World.size_setCell] at hz)
      have hz0 : w.heap.size < wx.heap.size := by omega
      have hz1 : w.heap.size + 1 < wx.heap.size := by omega
      have hz2 : b1 < wx.heap.size := by omega
      obtain ⟨hc, hf⟩ := bcell hb
      have HBX := Lib.hid hb
      clear hb hz
      simp [depsC, Region.binds, updS, Stay.is, Stay.any] at hd
      refine ⟨by simp [Region.wanted], ?_⟩
      obtain ⟨hown, hd⟩ := hd
      obtain ⟨v2, hv2⟩ : ∃ v2, u 2 = v2 := ⟨_, rfl⟩
      replace hown : wx.ownsRow w1.heap.size 40 5 v2 n (flatL Br.enc (rowL e n)) := by rw [← hv2]; exact hown
      have HOWN := Lib.hid hown
      clear hown
      go_simp
      (go_at_call 61; refine (delete_Bar w1.heap.size _ n I (flatL Br.enc (rowL e n)) wx HOWN.out hIlt (flatL_one Br.enc_one _) hn).mono ?_; rintro e' w2 ⟨v', rfl, ho, hb1⟩)
      exact ⟨_, rfl, hb1, ho⟩
    apply relc_is (by decide)
    · intro u wx hb hd
      have hz := hb.size
      (try simp only [World.size_alloc, World.size_setCell] at hz)
      have hz0 : w.heap.size < wx.heap.size := by omega
      have hz1 : w.heap.size + 1 < wx.heap.size := by omega
      have hz2 : b1 < wx.heap.size := by omega
      obtain ⟨hc, hf⟩ := bcell hb
      have HBX := Lib.hid hb
      clear hb hz
      simp [depsC, Region.binds, updS, Stay.is, Stay.any] at hd
      go_simp
      first | exact ⟨Below.refl _ _, rfl⟩ | rfl
    apply relc_is (by decide)
    · intro u wx hb hd
      have hz := hb.size
      (try simp only [World.size_alloc, World.size_setCell] at hz)
      have hz0 : w.heap.size < wx.heap.size := by omega
      have hz1 : w.heap.size + 1 < wx.heap.size := by omega
      have hz2 : b1 < wx.heap.size := by omega
      obtain ⟨hc, hf⟩ := bcell hb
      have HBX := Lib.hid hb
      clear hb hz
      simp [depsC, Region.binds, updS, Stay.is, Stay.any] at hd
      go_simp
      first | exact ⟨Below.refl _ _, rfl⟩ | rfl
    apply relc_is (by decide)
    · intro u wx hb hd
      have hz := hb.size
      (try simp only [World.size_alloc, World.size_setCell] at hz)
      have hz0 : w.heap.size < wx.heap.size := by omega
      have hz1 : w.heap.size + 1 < wx.heap.size := by omega
      have hz2 : b1 < wx.heap.size := by omega
      obtain ⟨hc, hf⟩ := bcell hb
      have HBX := Lib.hid hb
      clear hb hz
      simp [depsC, Region.binds, updS, Stay.is, Stay.any] at hd
      go_simp
      first | exact ⟨Below.refl _ _, rfl⟩ | rfl
    apply relc_is (by decide)
    · intro u wx hb hd
      have hz := hb.size
      (try simp only [World.size_alloc, World.size_setCell] at hz)
      have hz0 : w.heap.size < wx.heap.size := by omega
      have hz1 : w.heap.size + 1 < wx.heap.size := by omega
      have hz2 : b1 < wx.heap.size := by omega
      obtain ⟨hc, hf⟩ := bcell hb
      have HBX := Lib.hid hb
      clear hb hz
      simp [depsC, Region.binds, updS, Stay.is, Stay.any] at hd
      go_simp
      first | exact ⟨Below.refl _ _, rfl⟩ | rfl
    apply relc_is (by decide)
    · intro u wx hb hd
      have hz := hb.size
      (try simp only [World.size_alloc, World.size_setCell] at hz)
      have hz0 : w.heap.size < wx.heap.size := by omega
      have hz1 : w.heap.size + 1 < wx.heap.size := by omega
      have hz2 : b1 < wx.heap.size := by omega
      obtain ⟨hc, hf⟩ := bcell hb
      have HBX := Lib.hid hb
      clear hb hz
      simp [depsC, Region.binds, updS, Stay.is, Stay.any] at hd
      go_simp
      first | exact ⟨Below.refl _ _, rfl⟩ | rfl
    refine relc_after (Stay.owns w1.heap.size 40 5 (n - 1) ((flatL Br.enc (rowL e n)).take (I * 5) ++ (flatL Br.enc (rowL e n)).drop ((I + 1) * 5))) (by decide) (by kernel_rfl) ?_ ?_
    · intro u wx hb hd
      have hz := hb.size
      (try simp only [World.size_alloc, World.size_setCell] at hz)
      have hz0 : w.heap.size < wx.heap.size := by omega
      have hz1 : w.heap.size + 1 < wx.heap.size := by omega
      have hz2 : b1 < wx.heap.size := by omega
      obtain ⟨hc, hf⟩ := bcell hb
      have HBX := Lib.hid hb
      clear hb hz
      simp [depsC, Region.binds, updS, Stay.is, Stay.any] at hd
      refine ⟨by simp [Region.wanted], ?_⟩
      go_simp
      first | exact Below.refl _ _ | exact ⟨Below.refl _ _, hd.1⟩
    intro u w6 hb hE
    have e0 : u 0 = _ := endS_get hE 0 (by decide)
    have e1 : u 1 = _ := endS_get hE 1 (by decide)
    have e3 : u 3 = _ := endS_get hE 3 (by decide)
    have e4 : u 4 = _ := endS_get hE 4 (by decide)
    have e5 : u 5 = _ := endS_get hE 5 (by decide)
    have hO6 : w6.ownsRow _ _ _ (u 6) _ _ := endS_get hE 6 (by decide)
    obtain ⟨v6, hv6⟩ : ∃ v6, u 6 = v6 := ⟨_, rfl⟩
    rw [hv6] at hO6
    have HO6 := Lib.hid hO6
    clear hO6
    have e7 : u 7 = _ := endS_get hE 7 (by decide)
    have e8 : u 8 = _ := endS_get hE 8 (by decide)
    have e9 : u 9 = _ := endS_get hE 9 (by decide)
    have e10 : u 10 = _ := endS_get hE 10 (by decide)
    have e11 : u 11 = _ := endS_get hE 11 (by decide)
    have hO12 : w6.ownsRow _ _ _ (u 12) _ _ := endS_get hE 12 (by decide)
    obtain ⟨v12, hv12⟩ : ∃ v12, u 12 = v12 := ⟨_, rfl⟩
    rw [hv12] at hO12
    have HO12 := Lib.hid hO12
    clear hO12
    simp only [List.drop_succ_cons, List.drop_zero, List.take_succ_cons, List.take_zero, fillL, Act.put, List.setIfInBounds_toArray, List.set_cons_zero, List.set_cons_succ, e0, e1, e3, e4, e5, hv6, e7, e8, e9, e10, e11, hv12]
    clear e0 e1 e3 e4 e5 hv6 e7 e8 e9 e10 e11 hv12 hE
    have HBw6 := Lib.hid (below_step (w := w1) (by first | assumption | go_grown) hb)
    have HBXw6 := Lib.hid hb
    have hzw6 := hb.size
    (try simp only [World.size_alloc, World.size_setCell] at hzw6)
    have hzw60 : w.heap.size < w6.heap.size := by omega
    have hzw61 : w.heap.size + 1 < w6.heap.size := by omega
    have hzw62 : b1 < w6.heap.size := by omega
    obtain ⟨hcw6, hfw6⟩ := bcell hb
    clear hb hzw6
    have hAt : Hid (∀ w', w'.ownsRow w1.heap.size 40 5 v12 (n - 1) ((flatL Br.enc (rowL e n)).take (I * 5) ++ (flatL Br.enc (rowL e n)).drop ((I + 1) * 5)) → BrAt w' v12 (n - 1) (delF e I)) := fun w' ho => by
      refine owns_br (t := 40) (B := w1.heap.size) ?_
      rw [rowL_del e hIlt, flatL_append, ← flatL_take Br.enc_len, ← flatL_drop Br.enc_len]
      exact ho
    go_wp2
    all_goals (refine bodyPost_ret (v := .tuple #[v12, .agg #[.string id', .string sect', .string grade', .int .i64 len', .string heat'], .int .i64 0]) (by simp [results, Tryd.results41, go_sem, *]) rfl ?_)
    rw [HE9.out.1.1, HE9.out.1.2, HE9.out.2, HY.out]
    refine ⟨v12, rfl, hAt.out _ ?_, (owns_new HO12.out).mono (by omega), ?_⟩
    · exact owns_set (owns_set (owns_set (owns_set (owns_set (HO12.out) _ _ _ (by omega)) _ _ _ (by omega)) _ _ _ (by omega)) _ _ _ (by omega)) _ _ _ (by omega)
    · exact ((((((below_step HBw1.out HBw6.out)).setCell (show w.heap.size ≤ w.heap.size + 1 by omega) _).setCell (show w.heap.size ≤ w.heap.size + 1 by omega) _).setCell (show w.heap.size ≤ w.heap.size + 1 by omega) _).setCell (show w.heap.size ≤ w.heap.size + 1 by omega) _).setCell (show w.heap.size ≤ w.heap.size + 1 by omega) _
  · have hf : F = false := by simpa using hf
    have h9 : (EE = 8 ∧ NN = 0) ∧ X = Br.none := by
      have h1 : EE = 8 := by rw [← HEE.out, if_neg (by rw [hf]; decide)]
      exact ⟨⟨h1, by rw [← HN.out, if_neg (by rw [h1]; decide)]⟩, by rw [← HX.out, if_neg (by rw [hf]; decide)]⟩
    have HE9 := Lib.hid h9
    subst hf
    clear h9
    go_wp2_with fail
    refine wp_region_relw 2 (by kernel_rfl) (by kernel_rfl) (by kernel_rfl) ?_
    simp only [List.take_succ_cons, List.take_zero, fillL, Act.put, List.setIfInBounds_toArray, List.set_cons_zero, List.set_cons_succ]
    apply rel_is
    · intro u wx hb hd
      have hz := hb.size
      (try simp only [World.size_alloc, World.size_setCell] at hz)
      have hz0 : w.heap.size < wx.heap.size := by omega
      have hz1 : w.heap.size + 1 < wx.heap.size := by omega
      have hz2 : w1.heap.size < wx.heap.size := by omega
      obtain ⟨hc, hf⟩ := bcell hb
      have HBX := Lib.hid hb
      clear hb hz
      simp [depsS, Region.binds, updS, Stay.is, Stay.any] at hd
      go_simp
      first | exact ⟨Below.refl _ _, rfl⟩ | rfl
    apply rel_is
    · intro u wx hb hd
      have hz := hb.size
      (try simp only [World.size_alloc, World.size_setCell] at hz)
      have hz0 : w.heap.size < wx.heap.size := by omega
      have hz1 : w.heap.size + 1 < wx.heap.size := by omega
      have hz2 : w1.heap.size < wx.heap.size := by omega
      obtain ⟨hc, hf⟩ := bcell hb
      have HBX := Lib.hid hb
      clear hb hz
      simp [depsS, Region.binds, updS, Stay.is, Stay.any] at hd
      go_simp
      first | exact ⟨Below.refl _ _, rfl⟩ | rfl
    intro u w6 hb hE
    have e0 : u 0 = _ := endS_get hE 0 (by decide)
    have e1 : u 1 = _ := endS_get hE 1 (by decide)
    simp only [List.drop_succ_cons, List.drop_zero, List.take_succ_cons, List.take_zero, fillL, Act.put, List.setIfInBounds_toArray, List.set_cons_zero, List.set_cons_succ, e0, e1]
    clear e0 e1 hE
    have HBw6 := Lib.hid (below_step (w := w1) (by first | assumption | go_grown) hb)
    have HBXw6 := Lib.hid hb
    have hzw6 := hb.size
    (try simp only [World.size_alloc, World.size_setCell] at hzw6)
    have hzw60 : w.heap.size < w6.heap.size := by omega
    have hzw61 : w.heap.size + 1 < w6.heap.size := by omega
    have hzw62 : w1.heap.size < w6.heap.size := by omega
    obtain ⟨hcw6, hfw6⟩ := bcell hb
    clear hb hzw6
    go_wp2
    all_goals (refine bodyPost_ret (v := .tuple #[.slice none 0 0, .agg #[.string ⟨#[]⟩, .string ⟨#[]⟩, .string ⟨#[]⟩, .int .i64 0, .string ⟨#[]⟩], .int .i64 8]) (by simp [results, Tryd.results41, go_sem, *]) rfl ?_)
    rw [HE9.out.1.1, HE9.out.1.2, HE9.out.2]
    refine ⟨_, rfl, nil_Bar _ _, newFrom_nil _, ?_⟩
    exact (((((below_step HBw1.out HBw6.out).setCell (show w.heap.size ≤ w.heap.size + 1 by omega) _).setCell (show w.heap.size ≤ w.heap.size + 1 by omega) _).setCell (show w.heap.size ≤ w.heap.size + 1 by omega) _).setCell (show w.heap.size ≤ w.heap.size + 1 by omega) _).setCell (show w.heap.size ≤ w.heap.size + 1 by omega) _
end Go.Proofs.YtiddpaaihloopaaDoor
