/-
  Adding to a shelf of plates or bars, by walks. Conditions: an ascending shelf, at most 10^6 elements. By an AI agent.
-/
import Derived.Test.YtiddpaaihloopaaDoorPlace
import Derived.Test.YtiddpaaihloopaaDoorInsC
import Derived.Test.YtiddpaaihloopaaDoorRelc
import Derived.Test.YtiddpaaihloopaaDoorCells
namespace Go.Proofs.YtiddpaaihloopaaDoor
open Go Go.ChangeShapes Go.WideShapes Go.RowKit Go.ChangeAt
set_option linter.unusedVariables false
set_option linter.unusedSimpArgs false
set_option maxRecDepth 100000
def Stay.owns (B : Nat) (t : TypeId) (k n : Nat) (xs : List Value) : Stay := ⟨fun v w => w.ownsRow B t k v n xs, fun v w w' hb h => owns_below h hb⟩
def Stay.built (n : Nat) (xs : Array Value) (t : TypeId) : Stay := ⟨fun v w => ∃ g : Nat, v = .slice (some ⟨g, 0, none⟩) n n ∧ w.heap[g]? = some (.cells xs t), fun v w w' hb ⟨g, h1, h2⟩ => ⟨g, h1, by rw [hb.block g (Array.getElem?_eq_some_iff.1 h2).1]; exact h2⟩⟩
theorem owns_base {w : World} {B C : Nat} {t : TypeId} {k n : Nat} {v : Value} {xs : List Value} (h : w.ownsRow C t k v n xs) (hb : B ≤ C) : w.ownsRow B t k v n xs := by
  refine ⟨h.1, ?_⟩
  rcases h.2 with h0 | ⟨g, cap, cur, h1, h2, h3⟩
  · exact .inl h0
  · exact .inr ⟨g, cap, cur, h1, by omega, h3⟩
theorem nil_Sheet (w : World) (e : Nat → Sh) : ShAt w (.slice none 0 0) 0 e := ⟨none, 0, rfl, by omega, by omega, fun h => by omega⟩
theorem nil_Bar (w : World) (e : Nat → Br) : BrAt w (.slice none 0 0) 0 e := ⟨none, 0, rfl, by omega, by omega, fun h => by omega⟩

set_option maxHeartbeats 4000000 in
theorem add_Sheet (v : Value) (n : Nat) (e : Nat → Sh) (x : Sh) (w : World) (h : ShAt w v n e) (ha : AscB Sh.id e n) (hn : n ≤ 1000000) :
    Calls Tryd.prog 37 #[.agg #[v, .func (.func 42) #[] #[]], x.val] w fun e' w' => ∃ v', e' = .returned (.tuple #[v', .int .i64 (addE Sh.id e n x)]) ∧ ShAt w' v' (if addE Sh.id e n x = 0 then n + 1 else 0) (insF e (placeI Sh.id e n x.id) x) ∧ NewFrom w.heap.size v' ∧ Below w.heap.size w w' := by
  have eg : ∀ args w, (callFunc 42 args).run Tryd.prog w = .ok (.enter 42 args) w := enters_of Tryd.func42 (by kernel_rfl) rfl
  have HAT := Lib.hid h
  have HASC := Lib.hid ha
  obtain ⟨oa, cap, rfl, hnc, hcm, hel⟩ := h.form
  have HNN : Hid (oa = none → n = 0) := fun h0 => by
    rcases Nat.eq_zero_or_pos n with hz | hz
    · exact hz
    · obtain ⟨b, off, hq, _⟩ := hel 0 hz
      rw [h0] at hq; cases hq
  have hflat : ∀ wx, Below w.heap.size w wx → ∀ ad, oa = some ad → ∀ j u, (flatL Sh.enc (rowL e n))[j]? = some u → wx.cell? (ad.add j) = some u := fun wx hb ad had j u hj => by
    have hnz : 0 < n := by
      rcases Nat.eq_zero_or_pos n with hz | hz
      · subst hz; simp [flatL, rowL] at hj
      · exact hz
    obtain ⟨b, off, hq, _⟩ := hel 0 hnz
    rw [had] at hq
    cases hq
    subst had
    rw [Addr.add_lit]
    exact (HAT.out.below hb).flat j u hj
  have HFL := Lib.hid hflat
  clear h ha hel hflat hnc hcm
  obtain ⟨id', grade', thick', len', wid', heat'⟩ := x
  have hid : ∀ w, Calls Tryd.prog 42 #[.agg #[.string id', .string grade', .int .i64 thick', .int .i64 len', .int .i64 wid', .string heat']] w fun e w' => e = .returned (.string id') ∧ Below w.heap.size w w' := id_Sheet ⟨id', grade', thick', len', wid', heat'⟩
  have HID := Lib.hid hid
  clear hid
  obtain ⟨I, hI⟩ : ∃ I, placeI Sh.id e n id' = I := ⟨_, rfl⟩
  obtain ⟨F, hF⟩ : ∃ F, foundB Sh.id e n id' = F := ⟨_, rfl⟩
  have HI := Lib.hid hI
  have HF := Lib.hid hF
  have hIn : I ≤ n := by rw [← hI]; exact placeI_le
  obtain ⟨EE, hEE⟩ : ∃ EE, addE Sh.id e n (⟨id', grade', thick', len', wid', heat'⟩ : Sh) = EE := ⟨_, rfl⟩
  have HEE : Hid ((if F = true then (7 : Int) else if 128 ≤ n then 12 else 0) = EE) := by show _ = EE; rw [← hEE, ← hF]; rfl
  show Calls Tryd.prog 37 #[.agg #[.slice oa n cap, .func (.func 42) #[] #[]], .agg #[.string id', .string grade', .int .i64 thick', .int .i64 len', .int .i64 wid', .string heat']] w fun e' w' => ∃ v', e' = .returned (.tuple #[v', .int .i64 (addE Sh.id e n (⟨id', grade', thick', len', wid', heat'⟩ : Sh))]) ∧ ShAt w' v' (if addE Sh.id e n (⟨id', grade', thick', len', wid', heat'⟩ : Sh) = 0 then n + 1 else 0) (insF e (placeI Sh.id e n id') ⟨id', grade', thick', len', wid', heat'⟩) ∧ NewFrom w.heap.size v' ∧ Below w.heap.size w w'
  rw [hEE, hI]
  obtain ⟨NN, hNN⟩ : ∃ NN, (if EE = 0 then n + 1 else 0) = NN := ⟨_, rfl⟩
  rw [hNN]
  have HN := Lib.hid hNN
  clear hI hF hEE hNN
  go_enter Tryd.func37, Tryd.ntmps37
  go_wp2_with fail
  refine wp_region_relw 11 (by kernel_rfl) (by kernel_rfl) (by kernel_rfl) ?_
  simp only [List.take_succ_cons, List.take_zero, fillL, Act.put, List.setIfInBounds_toArray, List.set_cons_zero, List.set_cons_succ]
  apply rel_is
  · intro u wx hb hd
    have hz := hb.size
    (try simp only [World.size_alloc, World.size_setCell] at hz)
    have hz0 : w.heap.size < wx.heap.size := by omega
    have hz1 : w.heap.size + 1 < wx.heap.size := by omega
    obtain ⟨hc, hf⟩ := bcell hb
    have HBX := Lib.hid hb
    clear hb hz
    simp [depsS, Region.binds, updS, Stay.is, Stay.any] at hd
    go_simp
    first | exact ⟨Below.refl _ _, rfl⟩ | rfl
  apply rel_is
  · intro u wx hb hd
    have hz := hb.size
    (try simp only [World.size_alloc, World.size_setCell] at hz)
    have hz0 : w.heap.size < wx.heap.size := by omega
    have hz1 : w.heap.size + 1 < wx.heap.size := by omega
    obtain ⟨hc, hf⟩ := bcell hb
    have HBX := Lib.hid hb
    clear hb hz
    simp [depsS, Region.binds, updS, Stay.is, Stay.any] at hd
    go_simp
    first | exact ⟨Below.refl _ _, rfl⟩ | rfl
  apply rel_is
  · intro u wx hb hd
    have hz := hb.size
    (try simp only [World.size_alloc, World.size_setCell] at hz)
    have hz0 : w.heap.size < wx.heap.size := by omega
    have hz1 : w.heap.size + 1 < wx.heap.size := by omega
    obtain ⟨hc, hf⟩ := bcell hb
    have HBX := Lib.hid hb
    clear hb hz
    simp [depsS, Region.binds, updS, Stay.is, Stay.any] at hd
    go_simp
    first | exact ⟨Below.refl _ _, rfl⟩ | rfl
  apply rel_is
  · intro u wx hb hd
    have hz := hb.size
    (try simp only [World.size_alloc, World.size_setCell] at hz)
    have hz0 : w.heap.size < wx.heap.size := by omega
    have hz1 : w.heap.size + 1 < wx.heap.size := by omega
    obtain ⟨hc, hf⟩ := bcell hb
    have HBX := Lib.hid hb
    clear hb hz
    simp [depsS, Region.binds, updS, Stay.is, Stay.any] at hd
    go_simp
    first | exact ⟨Below.refl _ _, rfl⟩ | rfl
  apply rel_is
  · intro u wx hb hd
    have hz := hb.size
    (try simp only [World.size_alloc, World.size_setCell] at hz)
    have hz0 : w.heap.size < wx.heap.size := by omega
    have hz1 : w.heap.size + 1 < wx.heap.size := by omega
    obtain ⟨hc, hf⟩ := bcell hb
    have HBX := Lib.hid hb
    clear hb hz
    simp [depsS, Region.binds, updS, Stay.is, Stay.any] at hd
    go_simp
    first | rfl | (go_at_fn 42; refine (HID.out _).mono ?_; rintro e w1 ⟨rfl, hb1⟩; first | exact ⟨rfl, hb1⟩ | exact ⟨_, rfl, hb1, rfl⟩)
  apply rel_is
  · intro u wx hb hd
    have hz := hb.size
    (try simp only [World.size_alloc, World.size_setCell] at hz)
    have hz0 : w.heap.size < wx.heap.size := by omega
    have hz1 : w.heap.size + 1 < wx.heap.size := by omega
    obtain ⟨hc, hf⟩ := bcell hb
    have HBX := Lib.hid hb
    clear hb hz
    simp [depsS, Region.binds, updS, Stay.is, Stay.any] at hd
    go_simp
    first | rfl | (go_at_call 54; refine (place_Sheet _ n e id' wx (HAT.out.below (below_step (w := w) (by go_grown) HBX.out)) HASC.out hn).mono ?_; rintro e w1 ⟨rfl, hb1⟩; first | exact ⟨rfl, hb1⟩ | exact ⟨_, rfl, hb1, rfl⟩)
  apply rel_is
  · intro u wx hb hd
    have hz := hb.size
    (try simp only [World.size_alloc, World.size_setCell] at hz)
    have hz0 : w.heap.size < wx.heap.size := by omega
    have hz1 : w.heap.size + 1 < wx.heap.size := by omega
    obtain ⟨hc, hf⟩ := bcell hb
    have HBX := Lib.hid hb
    clear hb hz
    simp [depsS, Region.binds, updS, Stay.is, Stay.any] at hd
    go_simp
    first | exact ⟨Below.refl _ _, rfl⟩ | rfl
  apply rel_is
  · intro u wx hb hd
    have hz := hb.size
    (try simp only [World.size_alloc, World.size_setCell] at hz)
    have hz0 : w.heap.size < wx.heap.size := by omega
    have hz1 : w.heap.size + 1 < wx.heap.size := by omega
    obtain ⟨hc, hf⟩ := bcell hb
    have HBX := Lib.hid hb
    clear hb hz
    simp [depsS, Region.binds, updS, Stay.is, Stay.any] at hd
    go_simp
    first | exact ⟨Below.refl _ _, rfl⟩ | rfl
  apply rel_is
  · intro u wx hb hd
    have hz := hb.size
    (try simp only [World.size_alloc, World.size_setCell] at hz)
    have hz0 : w.heap.size < wx.heap.size := by omega
    have hz1 : w.heap.size + 1 < wx.heap.size := by omega
    obtain ⟨hc, hf⟩ := bcell hb
    have HBX := Lib.hid hb
    clear hb hz
    simp [depsS, Region.binds, updS, Stay.is, Stay.any] at hd
    go_simp
    first | exact ⟨Below.refl _ _, rfl⟩ | rfl
  apply rel_is
  · intro u wx hb hd
    have hz := hb.size
    (try simp only [World.size_alloc, World.size_setCell] at hz)
    have hz0 : w.heap.size < wx.heap.size := by omega
    have hz1 : w.heap.size + 1 < wx.heap.size := by omega
    obtain ⟨hc, hf⟩ := bcell hb
    have HBX := Lib.hid hb
    clear hb hz
    simp [depsS, Region.binds, updS, Stay.is, Stay.any] at hd
    go_simp
    first | exact ⟨Below.refl _ _, rfl⟩ | rfl
  apply rel_is
  · intro u wx hb hd
    have hz := hb.size
    (try simp only [World.size_alloc, World.size_setCell] at hz)
    have hz0 : w.heap.size < wx.heap.size := by omega
    have hz1 : w.heap.size + 1 < wx.heap.size := by omega
    obtain ⟨hc, hf⟩ := bcell hb
    have HBX := Lib.hid hb
    clear hb hz
    simp [depsS, Region.binds, updS, Stay.is, Stay.any] at hd
    go_simp
    first | exact ⟨Below.refl _ _, rfl⟩ | rfl
  intro u w5 hb hE
  have e0 : u 0 = _ := endS_get hE 0 (by decide)
  have e1 : u 1 = _ := endS_get hE 1 (by decide)
  have e2 : u 2 = _ := endS_get hE 2 (by decide)
  have e3 : u 3 = _ := endS_get hE 3 (by decide)
  have e4 : u 4 = _ := endS_get hE 4 (by decide)
  have e5 : u 5 = _ := endS_get hE 5 (by decide)
  have e6 : u 6 = _ := endS_get hE 6 (by decide)
  have e7 : u 7 = _ := endS_get hE 7 (by decide)
  have e8 : u 8 = _ := endS_get hE 8 (by decide)
  have e9 : u 9 = _ := endS_get hE 9 (by decide)
  have e10 : u 10 = _ := endS_get hE 10 (by decide)
  simp only [List.drop_succ_cons, List.drop_zero, List.take_succ_cons, List.take_zero, fillL, Act.put, List.setIfInBounds_toArray, List.set_cons_zero, List.set_cons_succ, e0, e1, e2, e3, e4, e5, e6, e7, e8, e9, e10]
  clear e0 e1 e2 e3 e4 e5 e6 e7 e8 e9 e10 hE
  have HBw5 := Lib.hid (below_step (w := w) (by first | assumption | go_grown) hb)
  have HBXw5 := Lib.hid hb
  have hzw5 := hb.size
  (try simp only [World.size_alloc, World.size_setCell] at hzw5)
  have hzw50 : w.heap.size < w5.heap.size := by omega
  have hzw51 : w.heap.size + 1 < w5.heap.size := by omega
  obtain ⟨hcw5, hfw5⟩ := bcell hb
  clear hb hzw5
  rw [HF.out, HI.out]
  have a0w5 : w5.cell? ⟨w.heap.size + 1, 0, none⟩ = some (.string id') := (hcw5 _ 0 (by first | omega | (simp <;> omega))).trans (by simp [go_sem])
  have a1w5 : w5.cell? ⟨w.heap.size + 1, 1, none⟩ = some (.string grade') := (hcw5 _ 1 (by first | omega | (simp <;> omega))).trans (by simp [go_sem])
  have a2w5 : w5.cell? ⟨w.heap.size + 1, 2, none⟩ = some (.int .i64 thick') := (hcw5 _ 2 (by first | omega | (simp <;> omega))).trans (by simp [go_sem])
  have a3w5 : w5.cell? ⟨w.heap.size + 1, 3, none⟩ = some (.int .i64 len') := (hcw5 _ 3 (by first | omega | (simp <;> omega))).trans (by simp [go_sem])
  have a4w5 : w5.cell? ⟨w.heap.size + 1, 4, none⟩ = some (.int .i64 wid') := (hcw5 _ 4 (by first | omega | (simp <;> omega))).trans (by simp [go_sem])
  have a5w5 : w5.cell? ⟨w.heap.size + 1, 5, none⟩ = some (.string heat') := (hcw5 _ 5 (by first | omega | (simp <;> omega))).trans (by simp [go_sem])
  have s0w5 : w5.cell? ⟨w.heap.size, 0, none⟩ = some (.slice oa n cap) := (hcw5 _ 0 (by first | omega | (simp <;> omega))).trans (by simp [go_sem])
  by_cases hf : F = true
  · have he : EE = 7 ∧ NN = 0 := by
      have h9 : EE = 7 := by rw [← HEE.out, if_pos hf]
      exact ⟨h9, by rw [← HN.out, if_neg (by rw [h9]; decide)]⟩
    have HE7 := Lib.hid he
    subst hf
    clear he
    go_wp2
    go_returns
    rw [HE7.out.1, HE7.out.2]
    exact ⟨_, rfl, nil_Sheet _ _, newFrom_nil _, HBw5.out⟩
  · have hf : F = false := by simpa using hf
    subst hf
    by_cases h128 : 128 ≤ n
    · have he : EE = 12 ∧ NN = 0 := by
        have h9 : EE = 12 := by rw [← HEE.out, if_neg (by decide), if_pos h128]
        exact ⟨h9, by rw [← HN.out, if_neg (by rw [h9]; decide)]⟩
      have HE7 := Lib.hid he
      have k128 : decide ((128 : Int) ≤ (n : Int)) = true := decide_eq_true (by omega)
      clear he
      go_wp2
      go_returns
      rw [HE7.out.1, HE7.out.2]
      exact ⟨_, rfl, nil_Sheet _ _, newFrom_nil _, HBw5.out⟩
    · have he : EE = 0 ∧ NN = n + 1 := by
        have h9 : EE = 0 := by rw [← HEE.out, if_neg (by decide), if_neg h128]
        exact ⟨h9, by rw [← HN.out, if_pos h9]⟩
      have HE7 := Lib.hid he
      have k128 : decide ((128 : Int) ≤ (n : Int)) = false := decide_eq_false (by omega)
      clear he
      go_wp2_with fail
      refine wp_region_relw 6 (by kernel_rfl) (by kernel_rfl) (by kernel_rfl) ?_
      simp only [List.take_succ_cons, List.take_zero, fillL, Act.put, List.setIfInBounds_toArray, List.set_cons_zero, List.set_cons_succ]
      apply rel_is
      · intro u wx hb hd
        have hz := hb.size
        (try simp only [World.size_alloc, World.size_setCell] at hz)
        have hz0 : w.heap.size < wx.heap.size := by omega
        have hz1 : w.heap.size + 1 < wx.heap.size := by omega
        obtain ⟨hc, hf⟩ := bcell hb
        have HBX := Lib.hid hb
        clear hb hz
        simp [depsS, Region.binds, updS, Stay.is, Stay.any] at hd
        go_simp
        first | exact ⟨Below.refl _ _, rfl⟩ | rfl
      apply rel_is
      · intro u wx hb hd
        have hz := hb.size
        (try simp only [World.size_alloc, World.size_setCell] at hz)
        have hz0 : w.heap.size < wx.heap.size := by omega
        have hz1 : w.heap.size + 1 < wx.heap.size := by omega
        obtain ⟨hc, hf⟩ := bcell hb
        have HBX := Lib.hid hb
        clear hb hz
        simp [depsS, Region.binds, updS, Stay.is, Stay.any] at hd
        go_simp
        first | exact ⟨Below.refl _ _, rfl⟩ | rfl
      refine rel_new (Stay.owns w.heap.size 38 6 n (flatL Sh.enc (rowL e n))) ?_ ?_
      · intro u wx hb hd
        have hz := hb.size
        (try simp only [World.size_alloc, World.size_setCell] at hz)
        have hz0 : w.heap.size < wx.heap.size := by omega
        have hz1 : w.heap.size + 1 < wx.heap.size := by omega
        obtain ⟨hc, hf⟩ := bcell hb
        have HBX := Lib.hid hb
        clear hb hz
        simp [depsS, Region.binds, updS, Stay.is, Stay.any] at hd
        refine ⟨by simp [Region.wanted], ?_⟩
        go_simp
        (go_at_call 56; refine (clone_Sheet oa n cap (flatL Sh.enc (rowL e n)) wx (by rw [flatL_len Sh.enc_len, rowL_len]) hn HNN.out (fun ad had j u hj => (HFL.out _ (below_step HBw5.out HBX.out)) ad had j u hj) (flatL_one Sh.enc_one _)).mono ?_; rintro e' w1 ⟨v', rfl, ho, hb1⟩)
        exact ⟨_, rfl, hb1, owns_base ho (by omega)⟩
      apply rel_is
      · intro u wx hb hd
        have hz := hb.size
        (try simp only [World.size_alloc, World.size_setCell] at hz)
        have hz0 : w.heap.size < wx.heap.size := by omega
        have hz1 : w.heap.size + 1 < wx.heap.size := by omega
        obtain ⟨hc, hf⟩ := bcell hb
        have HBX := Lib.hid hb
        clear hb hz
        simp [depsS, Region.binds, updS, Stay.is, Stay.any] at hd
        go_simp
        first | exact ⟨Below.refl _ _, rfl⟩ | rfl
      apply rel_is
      · intro u wx hb hd
        have hz := hb.size
        (try simp only [World.size_alloc, World.size_setCell] at hz)
        have hz0 : w.heap.size < wx.heap.size := by omega
        have hz1 : w.heap.size + 1 < wx.heap.size := by omega
        obtain ⟨hc, hf⟩ := bcell hb
        have HBX := Lib.hid hb
        clear hb hz
        simp [depsS, Region.binds, updS, Stay.is, Stay.any] at hd
        go_simp
        first | exact ⟨Below.refl _ _, rfl⟩ | rfl
      refine rel_new (Stay.built 1 #[.string id', .string grade', .int .i64 thick', .int .i64 len', .int .i64 wid', .string heat'] 38) ?_ ?_
      · intro u wx hb hd
        have hz := hb.size
        (try simp only [World.size_alloc, World.size_setCell] at hz)
        have hz0 : w.heap.size < wx.heap.size := by omega
        have hz1 : w.heap.size + 1 < wx.heap.size := by omega
        obtain ⟨hc, hf⟩ := bcell hb
        have HBX := Lib.hid hb
        clear hb hz
        simp [depsS, Region.binds, updS, Stay.is, Stay.any] at hd
        refine ⟨by simp [Region.wanted], ?_⟩
        go_simp
        exact ⟨(Below.refl _ _).alloc (Nat.le_refl _) _, _, rfl, (MapKept.heap_alloc _ _).1⟩
      intro u w6 hb hE
      have e0 : u 0 = _ := endS_get hE 0 (by decide)
      have e1 : u 1 = _ := endS_get hE 1 (by decide)
      have hO5 : w6.ownsRow _ _ _ (u 2) _ _ := endS_get hE 2 (by decide)
      obtain ⟨v2, hv2⟩ : ∃ v2, u 2 = v2 := ⟨_, rfl⟩
      rw [hv2] at hO5
      have HO5 := Lib.hid hO5
      clear hO5
      have e3 : u 3 = _ := endS_get hE 3 (by decide)
      have e4 : u 4 = _ := endS_get hE 4 (by decide)
      obtain ⟨g1, e5, q5⟩ : ∃ g : Nat, u 5 = .slice (some ⟨g, 0, none⟩) 1 1 ∧ w6.heap[g]? = some (.cells #[.string id', .string grade', .int .i64 thick', .int .i64 len', .int .i64 wid', .string heat'] 38) := endS_get hE 5 (by decide)
      have HQ5 := Lib.hid q5
      clear q5
      simp only [List.drop_succ_cons, List.drop_zero, List.take_succ_cons, List.take_zero, fillL, Act.put, List.setIfInBounds_toArray, List.set_cons_zero, List.set_cons_succ, e0, e1, hv2, e3, e4, e5]
      clear e0 e1 hv2 e3 e4 e5 hE
      have HBw6 := Lib.hid (below_step (w := w) (by first | assumption | go_grown) hb)
      have HBXw6 := Lib.hid hb
      have hzw6 := hb.size
      (try simp only [World.size_alloc, World.size_setCell] at hzw6)
      have hzw60 : w.heap.size < w6.heap.size := by omega
      have hzw61 : w.heap.size + 1 < w6.heap.size := by omega
      obtain ⟨hcw6, hfw6⟩ := bcell hb
      clear hb hzw6
      go_wp2_with fail
      (go_at_call 55; refine (insert_Sheet w.heap.size _ n I (flatL Sh.enc (rowL e n)) [.string id', .string grade', .int .i64 thick', .int .i64 len', .int .i64 wid', .string heat'] g1 w6 (by have := HBw6.out.size; exact this) HO5.out HQ5.out hIn rfl (by intro u hu; simp at hu; rcases hu with rfl | rfl | rfl | rfl | rfl | rfl <;> rfl) (flatL_one Sh.enc_one _) hn).mono ?_; rintro e' w7 ⟨v7, rfl, ho7, hb7⟩)
      have hAt : ShAt w7 v7 (n + 1) (insF e I (⟨id', grade', thick', len', wid', heat'⟩ : Sh)) := by
        refine owns_sh (t := 38) (B := w.heap.size) ?_
        rw [rowL_ins e _ hIn, flatL_append, flatL_append, ← flatL_take Sh.enc_len, ← flatL_drop Sh.enc_len]
        exact ho7
      have HAT7 := Lib.hid hAt
      have HN7 : Hid (NewFrom w.heap.size v7) := owns_new ho7
      have HB7 : Hid (Below w.heap.size w w7) := by
        show Below _ _ _
        exact HBw6.out.trans hb7
      clear hAt ho7 hb7
      go_wp2
      go_returns
      rw [HE7.out.1, HE7.out.2]
      exact ⟨_, rfl, HAT7.out, HN7.out, HB7.out⟩

set_option maxHeartbeats 4000000 in
theorem add_Bar (v : Value) (n : Nat) (e : Nat → Br) (x : Br) (w : World) (h : BrAt w v n e) (ha : AscB Br.id e n) (hn : n ≤ 1000000) :
    Calls Tryd.prog 40 #[.agg #[v, .func (.func 46) #[] #[]], x.val] w fun e' w' => ∃ v', e' = .returned (.tuple #[v', .int .i64 (addE Br.id e n x)]) ∧ BrAt w' v' (if addE Br.id e n x = 0 then n + 1 else 0) (insF e (placeI Br.id e n x.id) x) ∧ NewFrom w.heap.size v' ∧ Below w.heap.size w w' := by
  have eg : ∀ args w, (callFunc 46 args).run Tryd.prog w = .ok (.enter 46 args) w := enters_of Tryd.func46 (by kernel_rfl) rfl
  have HAT := Lib.hid h
  have HASC := Lib.hid ha
  obtain ⟨oa, cap, rfl, hnc, hcm, hel⟩ := h.form
  have HNN : Hid (oa = none → n = 0) := fun h0 => by
    rcases Nat.eq_zero_or_pos n with hz | hz
    · exact hz
    · obtain ⟨b, off, hq, _⟩ := hel 0 hz
      rw [h0] at hq; cases hq
  have hflat : ∀ wx, Below w.heap.size w wx → ∀ ad, oa = some ad → ∀ j u, (flatL Br.enc (rowL e n))[j]? = some u → wx.cell? (ad.add j) = some u := fun wx hb ad had j u hj => by
    have hnz : 0 < n := by
      rcases Nat.eq_zero_or_pos n with hz | hz
      · subst hz; simp [flatL, rowL] at hj
      · exact hz
    obtain ⟨b, off, hq, _⟩ := hel 0 hnz
    rw [had] at hq
    cases hq
    subst had
    rw [Addr.add_lit]
    exact (HAT.out.below hb).flat j u hj
  have HFL := Lib.hid hflat
  clear h ha hel hflat hnc hcm
  obtain ⟨id', sect', grade', len', heat'⟩ := x
  have hid : ∀ w, Calls Tryd.prog 46 #[.agg #[.string id', .string sect', .string grade', .int .i64 len', .string heat']] w fun e w' => e = .returned (.string id') ∧ Below w.heap.size w w' := id_Bar ⟨id', sect', grade', len', heat'⟩
  have HID := Lib.hid hid
  clear hid
  obtain ⟨I, hI⟩ : ∃ I, placeI Br.id e n id' = I := ⟨_, rfl⟩
  obtain ⟨F, hF⟩ : ∃ F, foundB Br.id e n id' = F := ⟨_, rfl⟩
  have HI := Lib.hid hI
  have HF := Lib.hid hF
  have hIn : I ≤ n := by rw [← hI]; exact placeI_le
  obtain ⟨EE, hEE⟩ : ∃ EE, addE Br.id e n (⟨id', sect', grade', len', heat'⟩ : Br) = EE := ⟨_, rfl⟩
  have HEE : Hid ((if F = true then (7 : Int) else if 128 ≤ n then 12 else 0) = EE) := by show _ = EE; rw [← hEE, ← hF]; rfl
  show Calls Tryd.prog 40 #[.agg #[.slice oa n cap, .func (.func 46) #[] #[]], .agg #[.string id', .string sect', .string grade', .int .i64 len', .string heat']] w fun e' w' => ∃ v', e' = .returned (.tuple #[v', .int .i64 (addE Br.id e n (⟨id', sect', grade', len', heat'⟩ : Br))]) ∧ BrAt w' v' (if addE Br.id e n (⟨id', sect', grade', len', heat'⟩ : Br) = 0 then n + 1 else 0) (insF e (placeI Br.id e n id') ⟨id', sect', grade', len', heat'⟩) ∧ NewFrom w.heap.size v' ∧ Below w.heap.size w w'
  rw [hEE, hI]
  obtain ⟨NN, hNN⟩ : ∃ NN, (if EE = 0 then n + 1 else 0) = NN := ⟨_, rfl⟩
  rw [hNN]
  have HN := Lib.hid hNN
  clear hI hF hEE hNN
  go_enter Tryd.func40, Tryd.ntmps40
  go_wp2_with fail
  refine wp_region_relw 11 (by kernel_rfl) (by kernel_rfl) (by kernel_rfl) ?_
  simp only [List.take_succ_cons, List.take_zero, fillL, Act.put, List.setIfInBounds_toArray, List.set_cons_zero, List.set_cons_succ]
  apply rel_is
  · intro u wx hb hd
    have hz := hb.size
    (try simp only [World.size_alloc, World.size_setCell] at hz)
    have hz0 : w.heap.size < wx.heap.size := by omega
    have hz1 : w.heap.size + 1 < wx.heap.size := by omega
    obtain ⟨hc, hf⟩ := bcell hb
    have HBX := Lib.hid hb
    clear hb hz
    simp [depsS, Region.binds, updS, Stay.is, Stay.any] at hd
    go_simp
    first | exact ⟨Below.refl _ _, rfl⟩ | rfl
  apply rel_is
  · intro u wx hb hd
    have hz := hb.size
    (try simp only [World.size_alloc, World.size_setCell] at hz)
    have hz0 : w.heap.size < wx.heap.size := by omega
    have hz1 : w.heap.size + 1 < wx.heap.size := by omega
    obtain ⟨hc, hf⟩ := bcell hb
    have HBX := Lib.hid hb
    clear hb hz
    simp [depsS, Region.binds, updS, Stay.is, Stay.any] at hd
    go_simp
    first | exact ⟨Below.refl _ _, rfl⟩ | rfl
  apply rel_is
  · intro u wx hb hd
    have hz := hb.size
    (try simp only [World.size_alloc, World.size_setCell] at hz)
    have hz0 : w.heap.size < wx.heap.size := by omega
    have hz1 : w.heap.size + 1 < wx.heap.size := by omega
    obtain ⟨hc, hf⟩ := bcell hb
    have HBX := Lib.hid hb
    clear hb hz
    simp [depsS, Region.binds, updS, Stay.is, Stay.any] at hd
    go_simp
    first | exact ⟨Below.refl _ _, rfl⟩ | rfl
  apply rel_is
  · intro u wx hb hd
    have hz := hb.size
    (try simp only [World.size_alloc, World.size_setCell] at hz)
    have hz0 : w.heap.size < wx.heap.size := by omega
    have hz1 : w.heap.size + 1 < wx.heap.size := by omega
    obtain ⟨hc, hf⟩ := bcell hb
    have HBX := Lib.hid hb
    clear hb hz
    simp [depsS, Region.binds, updS, Stay.is, Stay.any] at hd
    go_simp
    first | exact ⟨Below.refl _ _, rfl⟩ | rfl
  apply rel_is
  · intro u wx hb hd
    have hz := hb.size
    (try simp only [World.size_alloc, World.size_setCell] at hz)
    have hz0 : w.heap.size < wx.heap.size := by omega
    have hz1 : w.heap.size + 1 < wx.heap.size := by omega
    obtain ⟨hc, hf⟩ := bcell hb
    have HBX := Lib.hid hb
    clear hb hz
    simp [depsS, Region.binds, updS, Stay.is, Stay.any] at hd
    go_simp
    first | rfl | (go_at_fn 46; refine (HID.out _).mono ?_; rintro e w1 ⟨rfl, hb1⟩; first | exact ⟨rfl, hb1⟩ | exact ⟨_, rfl, hb1, rfl⟩)
  apply rel_is
  · intro u wx hb hd
    have hz := hb.size
    (try simp only [World.size_alloc, World.size_setCell] at hz)
    have hz0 : w.heap.size < wx.heap.size := by omega
    have hz1 : w.heap.size + 1 < wx.heap.size := by omega
    obtain ⟨hc, hf⟩ := bcell hb
    have HBX := Lib.hid hb
    clear hb hz
    simp [depsS, Region.binds, updS, Stay.is, Stay.any] at hd
    go_simp
    first | rfl | (go_at_call 59; refine (place_Bar _ n e id' wx (HAT.out.below (below_step (w := w) (by go_grown) HBX.out)) HASC.out hn).mono ?_; rintro e w1 ⟨rfl, hb1⟩; first | exact ⟨rfl, hb1⟩ | exact ⟨_, rfl, hb1, rfl⟩)
  apply rel_is
  · intro u wx hb hd
    have hz := hb.size
    (try simp only [World.size_alloc, World.size_setCell] at hz)
    have hz0 : w.heap.size < wx.heap.size := by omega
    have hz1 : w.heap.size + 1 < wx.heap.size := by omega
    obtain ⟨hc, hf⟩ := bcell hb
    have HBX := Lib.hid hb
    clear hb hz
    simp [depsS, Region.binds, updS, Stay.is, Stay.any] at hd
    go_simp
    first | exact ⟨Below.refl _ _, rfl⟩ | rfl
  apply rel_is
  · intro u wx hb hd
    have hz := hb.size
    (try simp only [World.size_alloc, World.size_setCell] at hz)
    have hz0 : w.heap.size < wx.heap.size := by omega
    have hz1 : w.heap.size + 1 < wx.heap.size := by omega
    obtain ⟨hc, hf⟩ := bcell hb
    have HBX := Lib.hid hb
    clear hb hz
    simp [depsS, Region.binds, updS, Stay.is, Stay.any] at hd
    go_simp
    first | exact ⟨Below.refl _ _, rfl⟩ | rfl
  apply rel_is
  · intro u wx hb hd
    have hz := hb.size
    (try simp only [World.size_alloc, World.size_setCell] at hz)
    have hz0 : w.heap.size < wx.heap.size := by omega
    have hz1 : w.heap.size + 1 < wx.heap.size := by omega
    obtain ⟨hc, hf⟩ := bcell hb
    have HBX := Lib.hid hb
    clear hb hz
    simp [depsS, Region.binds, updS, Stay.is, Stay.any] at hd
    go_simp
    first | exact ⟨Below.refl _ _, rfl⟩ | rfl
  apply rel_is
  · intro u wx hb hd
    have hz := hb.size
    (try simp only [World.size_alloc, World.size_setCell] at hz)
    have hz0 : w.heap.size < wx.heap.size := by omega
    have hz1 : w.heap.size + 1 < wx.heap.size := by omega
    obtain ⟨hc, hf⟩ := bcell hb
    have HBX := Lib.hid hb
    clear hb hz
    simp [depsS, Region.binds, updS, Stay.is, Stay.any] at hd
    go_simp
    first | exact ⟨Below.refl _ _, rfl⟩ | rfl
  apply rel_is
  · intro u wx hb hd
    have hz := hb.size
    (try simp only [World.size_alloc, World.size_setCell] at hz)
    have hz0 : w.heap.size < wx.heap.size := by omega
    have hz1 : w.heap.size + 1 < wx.heap.size := by omega
    obtain ⟨hc, hf⟩ := bcell hb
    have HBX := Lib.hid hb
    clear hb hz
    simp [depsS, Region.binds, updS, Stay.is, Stay.any] at hd
    go_simp
    first | exact ⟨Below.refl _ _, rfl⟩ | rfl
  intro u w5 hb hE
  have e0 : u 0 = _ := endS_get hE 0 (by decide)
  have e1 : u 1 = _ := endS_get hE 1 (by decide)
  have e2 : u 2 = _ := endS_get hE 2 (by decide)
  have e3 : u 3 = _ := endS_get hE 3 (by decide)
  have e4 : u 4 = _ := endS_get hE 4 (by decide)
  have e5 : u 5 = _ := endS_get hE 5 (by decide)
  have e6 : u 6 = _ := endS_get hE 6 (by decide)
  have e7 : u 7 = _ := endS_get hE 7 (by decide)
  have e8 : u 8 = _ := endS_get hE 8 (by decide)
  have e9 : u 9 = _ := endS_get hE 9 (by decide)
  have e10 : u 10 = _ := endS_get hE 10 (by decide)
  simp only [List.drop_succ_cons, List.drop_zero, List.take_succ_cons, List.take_zero, fillL, Act.put, List.setIfInBounds_toArray, List.set_cons_zero, List.set_cons_succ, e0, e1, e2, e3, e4, e5, e6, e7, e8, e9, e10]
  clear e0 e1 e2 e3 e4 e5 e6 e7 e8 e9 e10 hE
  have HBw5 := Lib.hid (below_step (w := w) (by first | assumption | go_grown) hb)
  have HBXw5 := Lib.hid hb
  have hzw5 := hb.size
  (try simp only [World.size_alloc, World.size_setCell] at hzw5)
  have hzw50 : w.heap.size < w5.heap.size := by omega
  have hzw51 : w.heap.size + 1 < w5.heap.size := by omega
  obtain ⟨hcw5, hfw5⟩ := bcell hb
  clear hb hzw5
  rw [HF.out, HI.out]
  have a0w5 : w5.cell? ⟨w.heap.size + 1, 0, none⟩ = some (.string id') := (hcw5 _ 0 (by first | omega | (simp <;> omega))).trans (by simp [go_sem])
  have a1w5 : w5.cell? ⟨w.heap.size + 1, 1, none⟩ = some (.string sect') := (hcw5 _ 1 (by first | omega | (simp <;> omega))).trans (by simp [go_sem])
  have a2w5 : w5.cell? ⟨w.heap.size + 1, 2, none⟩ = some (.string grade') := (hcw5 _ 2 (by first | omega | (simp <;> omega))).trans (by simp [go_sem])
  have a3w5 : w5.cell? ⟨w.heap.size + 1, 3, none⟩ = some (.int .i64 len') := (hcw5 _ 3 (by first | omega | (simp <;> omega))).trans (by simp [go_sem])
  have a4w5 : w5.cell? ⟨w.heap.size + 1, 4, none⟩ = some (.string heat') := (hcw5 _ 4 (by first | omega | (simp <;> omega))).trans (by simp [go_sem])
  have s0w5 : w5.cell? ⟨w.heap.size, 0, none⟩ = some (.slice oa n cap) := (hcw5 _ 0 (by first | omega | (simp <;> omega))).trans (by simp [go_sem])
  by_cases hf : F = true
  · have he : EE = 7 ∧ NN = 0 := by
      have h9 : EE = 7 := by rw [← HEE.out, if_pos hf]
      exact ⟨h9, by rw [← HN.out, if_neg (by rw [h9]; decide)]⟩
    have HE7 := Lib.hid he
    subst hf
    clear he
    go_wp2
    go_returns
    rw [HE7.out.1, HE7.out.2]
    exact ⟨_, rfl, nil_Bar _ _, newFrom_nil _, HBw5.out⟩
  · have hf : F = false := by simpa using hf
    subst hf
    by_cases h128 : 128 ≤ n
    · have he : EE = 12 ∧ NN = 0 := by
        have h9 : EE = 12 := by rw [← HEE.out, if_neg (by decide), if_pos h128]
        exact ⟨h9, by rw [← HN.out, if_neg (by rw [h9]; decide)]⟩
      have HE7 := Lib.hid he
      have k128 : decide ((128 : Int) ≤ (n : Int)) = true := decide_eq_true (by omega)
      clear he
      go_wp2
      go_returns
      rw [HE7.out.1, HE7.out.2]
      exact ⟨_, rfl, nil_Bar _ _, newFrom_nil _, HBw5.out⟩
    · have he : EE = 0 ∧ NN = n + 1 := by
        have h9 : EE = 0 := by rw [← HEE.out, if_neg (by decide), if_neg h128]
        exact ⟨h9, by rw [← HN.out, if_pos h9]⟩
      have HE7 := Lib.hid he
      have k128 : decide ((128 : Int) ≤ (n : Int)) = false := decide_eq_false (by omega)
      clear he
      go_wp2_with fail
      refine wp_region_relw 6 (by kernel_rfl) (by kernel_rfl) (by kernel_rfl) ?_
      simp only [List.take_succ_cons, List.take_zero, fillL, Act.put, List.setIfInBounds_toArray, List.set_cons_zero, List.set_cons_succ]
      apply rel_is
      · intro u wx hb hd
        have hz := hb.size
        (try simp only [World.size_alloc, World.size_setCell] at hz)
        have hz0 : w.heap.size < wx.heap.size := by omega
        have hz1 : w.heap.size + 1 < wx.heap.size := by omega
        obtain ⟨hc, hf⟩ := bcell hb
        have HBX := Lib.hid hb
        clear hb hz
        simp [depsS, Region.binds, updS, Stay.is, Stay.any] at hd
        go_simp
        first | exact ⟨Below.refl _ _, rfl⟩ | rfl
      apply rel_is
      · intro u wx hb hd
        have hz := hb.size
        (try simp only [World.size_alloc, World.size_setCell] at hz)
        have hz0 : w.heap.size < wx.heap.size := by omega
        have hz1 : w.heap.size + 1 < wx.heap.size := by omega
        obtain ⟨hc, hf⟩ := bcell hb
        have HBX := Lib.hid hb
        clear hb hz
        simp [depsS, Region.binds, updS, Stay.is, Stay.any] at hd
        go_simp
        first | exact ⟨Below.refl _ _, rfl⟩ | rfl
      refine rel_new (Stay.owns w.heap.size 40 5 n (flatL Br.enc (rowL e n))) ?_ ?_
      · intro u wx hb hd
        have hz := hb.size
        (try simp only [World.size_alloc, World.size_setCell] at hz)
        have hz0 : w.heap.size < wx.heap.size := by omega
        have hz1 : w.heap.size + 1 < wx.heap.size := by omega
        obtain ⟨hc, hf⟩ := bcell hb
        have HBX := Lib.hid hb
        clear hb hz
        simp [depsS, Region.binds, updS, Stay.is, Stay.any] at hd
        refine ⟨by simp [Region.wanted], ?_⟩
        go_simp
        (go_at_call 57; refine (clone_Bar oa n cap (flatL Br.enc (rowL e n)) wx (by rw [flatL_len Br.enc_len, rowL_len]) hn HNN.out (fun ad had j u hj => (HFL.out _ (below_step HBw5.out HBX.out)) ad had j u hj) (flatL_one Br.enc_one _)).mono ?_; rintro e' w1 ⟨v', rfl, ho, hb1⟩)
        exact ⟨_, rfl, hb1, owns_base ho (by omega)⟩
      apply rel_is
      · intro u wx hb hd
        have hz := hb.size
        (try simp only [World.size_alloc, World.size_setCell] at hz)
        have hz0 : w.heap.size < wx.heap.size := by omega
        have hz1 : w.heap.size + 1 < wx.heap.size := by omega
        obtain ⟨hc, hf⟩ := bcell hb
        have HBX := Lib.hid hb
        clear hb hz
        simp [depsS, Region.binds, updS, Stay.is, Stay.any] at hd
        go_simp
        first | exact ⟨Below.refl _ _, rfl⟩ | rfl
      apply rel_is
      · intro u wx hb hd
        have hz := hb.size
        (try simp only [World.size_alloc, World.size_setCell] at hz)
        have hz0 : w.heap.size < wx.heap.size := by omega
        have hz1 : w.heap.size + 1 < wx.heap.size := by omega
        obtain ⟨hc, hf⟩ := bcell hb
        have HBX := Lib.hid hb
        clear hb hz
        simp [depsS, Region.binds, updS, Stay.is, Stay.any] at hd
        go_simp
        first | exact ⟨Below.refl _ _, rfl⟩ | rfl
      refine rel_new (Stay.built 1 #[.string id', .string sect', .string grade', .int .i64 len', .string heat'] 40) ?_ ?_
      · intro u wx hb hd
        have hz := hb.size
        (try simp only [World.size_alloc, World.size_setCell] at hz)
        have hz0 : w.heap.size < wx.heap.size := by omega
        have hz1 : w.heap.size + 1 < wx.heap.size := by omega
        obtain ⟨hc, hf⟩ := bcell hb
        have HBX := Lib.hid hb
        clear hb hz
        simp [depsS, Region.binds, updS, Stay.is, Stay.any] at hd
        refine ⟨by simp [Region.wanted], ?_⟩
        go_simp
        exact ⟨(Below.refl _ _).alloc (Nat.le_refl _) _, _, rfl, (MapKept.heap_alloc _ _).1⟩
      intro u w6 hb hE
      have e0 : u 0 = _ := endS_get hE 0 (by decide)
      have e1 : u 1 = _ := endS_get hE 1 (by decide)
      have hO5 : w6.ownsRow _ _ _ (u 2) _ _ := endS_get hE 2 (by decide)
      obtain ⟨v2, hv2⟩ : ∃ v2, u 2 = v2 := ⟨_, rfl⟩
      rw [hv2] at hO5
      have HO5 := Lib.hid hO5
      clear hO5
      have e3 : u 3 = _ := endS_get hE 3 (by decide)
      have e4 : u 4 = _ := endS_get hE 4 (by decide)
      obtain ⟨g1, e5, q5⟩ : ∃ g : Nat, u 5 = .slice (some ⟨g, 0, none⟩) 1 1 ∧ w6.heap[g]? = some (.cells #[.string id', .string sect', .string grade', .int .i64 len', .string heat'] 40) := endS_get hE 5 (by decide)
      have HQ5 := Lib.hid q5
      clear q5
      simp only [List.drop_succ_cons, List.drop_zero, List.take_succ_cons, List.take_zero, fillL, Act.put, List.setIfInBounds_toArray, List.set_cons_zero, List.set_cons_succ, e0, e1, hv2, e3, e4, e5]
      clear e0 e1 hv2 e3 e4 e5 hE
      have HBw6 := Lib.hid (below_step (w := w) (by first | assumption | go_grown) hb)
      have HBXw6 := Lib.hid hb
      have hzw6 := hb.size
      (try simp only [World.size_alloc, World.size_setCell] at hzw6)
      have hzw60 : w.heap.size < w6.heap.size := by omega
      have hzw61 : w.heap.size + 1 < w6.heap.size := by omega
      obtain ⟨hcw6, hfw6⟩ := bcell hb
      clear hb hzw6
      go_wp2_with fail
      (go_at_call 60; refine (insert_Bar w.heap.size _ n I (flatL Br.enc (rowL e n)) [.string id', .string sect', .string grade', .int .i64 len', .string heat'] g1 w6 (by have := HBw6.out.size; exact this) HO5.out HQ5.out hIn rfl (by intro u hu; simp at hu; rcases hu with rfl | rfl | rfl | rfl | rfl <;> rfl) (flatL_one Br.enc_one _) hn).mono ?_; rintro e' w7 ⟨v7, rfl, ho7, hb7⟩)
      have hAt : BrAt w7 v7 (n + 1) (insF e I (⟨id', sect', grade', len', heat'⟩ : Br)) := by
        refine owns_br (t := 40) (B := w.heap.size) ?_
        rw [rowL_ins e _ hIn, flatL_append, flatL_append, ← flatL_take Br.enc_len, ← flatL_drop Br.enc_len]
        exact ho7
      have HAT7 := Lib.hid hAt
      have HN7 : Hid (NewFrom w.heap.size v7) := owns_new ho7
      have HB7 : Hid (Below w.heap.size w w7) := by
        show Below _ _ _
        exact HBw6.out.trans hb7
      clear hAt ho7 hb7
      go_wp2
      go_returns
      rw [HE7.out.1, HE7.out.2]
      exact ⟨_, rfl, HAT7.out, HN7.out, HB7.out⟩
end Go.Proofs.YtiddpaaihloopaaDoor
