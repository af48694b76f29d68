/-
  The law MeshTogether. Conditions: none. By an AI agent.
-/
import Derived.Test.YtpjdmjmgkdgfnaaMeshYP
namespace Go.Proofs.Ytpjdmjmgkdgfnaa
open Go Go.ChangeShapes Go.WideShapes Go.RowKit Go.ChangeAt
set_option linter.unusedVariables false
set_option linter.unusedSimpArgs false
set_option maxRecDepth 100000

theorem RowAt.kept {w w' : World} {v : Value} {n : Nat} {F : Nat → V} (h : RowAt w v n F) (hs : w.heap.size ≤ w'.heap.size) (hh : ∀ g, v.ownBlock = some g → w'.heap[g]? = w.heap[g]?) : RowAt w' v n F := by
  obtain ⟨oa, cap, rfl, h2, h3, h4⟩ := h
  refine ⟨oa, cap, rfl, h2, h3, fun h0 => ?_⟩
  obtain ⟨b, off, rfl, hlt, hc⟩ := h4 h0
  refine ⟨b, off, rfl, by omega, fun i j hi hj => ?_⟩
  rw [← hc i j hi hj]
  unfold World.cell?
  rw [hh b rfl]
theorem Below.gnone {w w' : World} (h : w.grownBy w' none) : Below w.heap.size w w' := ⟨h.os, h.tape, h.output, h.size, fun i hi => h.block i hi (by simp)⟩
theorem src_below {w w' : World} {oa : Option Addr} {xs : List Value} (h : ∀ ad, oa = some ad → ∀ j u, xs[j]? = some u → w.cell? (ad.add j) = some u) (hb : Below w.heap.size w w') : ∀ ad, oa = some ad → ∀ j u, xs[j]? = some u → w'.cell? (ad.add j) = some u := fun ad had j u hj => by
  have h1 := h ad had j u hj
  refine (hb.cell (p := ad.add j) ?_).trans h1
  rcases Nat.lt_or_ge (ad.add j).block w.heap.size with h' | h'
  · exact h'
  · simp [World.cell?, Array.getElem?_eq_none h'] at h1
theorem cellK {w w' : World} {b : Nat} (o : Nat) (h : w'.heap[b]? = w.heap[b]?) : w'.cell? ⟨b, o, none⟩ = w.cell? ⟨b, o, none⟩ := by
  unfold World.cell?
  dsimp only
  rw [h]
theorem glue_step {F G : Nat → V} {n j : Nat} : glueF F G n (n + j) = G j := by
  unfold glueF
  rw [if_neg (by omega), show n + j - n = j by omega]

set_option maxHeartbeats 4000000 in
theorem meshTogether_walk (v v' : Value) (np nf mp mf : Nat) (P F Q G : Nat → V) (w : World) (h : MAt w v np P nf F) (h' : MAt w v' mp Q mf G) : Calls Try.prog 9 #[v, v'] w fun e w' => e = .returned (.bool true) ∧ Below w.heap.size w w' := by
  have HMA := Lib.hid h
  have HMB := Lib.hid h'
  obtain ⟨vp, vf, rfl, g1, g2⟩ := h
  obtain ⟨op, cp, rfl, -, -, -⟩ := g1.form
  obtain ⟨of', cf, rfl, -, -, -⟩ := g2.form
  obtain ⟨vq, vg, rfl, g3, g4⟩ := h'
  obtain ⟨oq, cq, rfl, -, -, -⟩ := g3.form
  obtain ⟨og, cg, rfl, -, -, helg⟩ := g4.form
  have HPA := Lib.hid g1
  have HFA := Lib.hid g2
  have HPB := Lib.hid g3
  have HEG := Lib.hid helg
  clear g1 g2 g3 g4 helg
  obtain ⟨E1, hE1⟩ : ∃ E, checkM np P nf F = E := ⟨_, rfl⟩
  obtain ⟨E2, hE2⟩ : ∃ E, checkM mp Q mf G = E := ⟨_, rfl⟩
  have HE1 := Lib.hid hE1
  have HE2 := Lib.hid hE2
  obtain ⟨sv, hsv⟩ : ∃ b, decide (vol6 np P nf F < 0) = b := ⟨_, rfl⟩
  obtain ⟨V, hV⟩ : ∃ X, wdF (vol6 np P nf F) = X := ⟨_, rfl⟩
  obtain ⟨sw, hsw⟩ : ∃ b, decide (vol6 mp Q mf G < 0) = b := ⟨_, rfl⟩
  obtain ⟨U, hU⟩ : ∃ X, wdF (vol6 mp Q mf G) = X := ⟨_, rfl⟩
  have HS1 := Lib.hid (And.intro hsv hV)
  have HS2 := Lib.hid (And.intro hsw hU)
  have HV1 : Hid (∀ W, MAt W (.agg #[.slice op np cp, .slice of' nf cf]) np P nf F → Calls Try.prog 15 #[.agg #[.slice op np cp, .slice of' nf cf]] W fun e w' => e = .returned (.tuple #[.agg #[.bool sv, .int .u64 (V 0), .int .u64 (V 1), .int .u64 (V 2), .int .u64 (V 3)], .int .i64 E1]) ∧ Below W.heap.size W w') := fun W h => by
    have h := Volume6_any _ np nf P F W h
    rw [hsv, hV, hE1] at h
    exact h
  have HV2 : Hid (∀ W, MAt W (.agg #[.slice oq mp cq, .slice og mf cg]) mp Q mf G → Calls Try.prog 15 #[.agg #[.slice oq mp cq, .slice og mf cg]] W fun e w' => e = .returned (.tuple #[.agg #[.bool sw, .int .u64 (U 0), .int .u64 (U 1), .int .u64 (U 2), .int .u64 (U 3)], .int .i64 E2]) ∧ Below W.heap.size W w') := fun W h => by
    have h := Volume6_any _ mp mf Q G W h
    rw [hsw, hU, hE2] at h
    exact h
  clear hE1 hE2 hsv hV hsw hU
  by_cases b0 : (500 : Int) < np
  · have kb0 : decide ((500 : Int) < np) = true := decide_eq_true b0
    go_enter Try.func9, Try.ntmps9
    go_wp2_with fail
    (go_at_call 12; refine (awake_any _).mono ?_; rintro e_ w1 ⟨rfl, hb⟩)
    have hBz : Below w.heap.size w w1 := below_step (w := w) (by first | assumption | go_grown) hb
    go_wp2
    go_returns
    exact ⟨rfl, hBz⟩
  have kb0 : decide ((500 : Int) < np) = false := decide_eq_false b0
  by_cases b1 : (500 : Int) < mp
  · have kb1 : decide ((500 : Int) < mp) = true := decide_eq_true b1
    go_enter Try.func9, Try.ntmps9
    go_wp2_with fail
    (go_at_call 12; refine (awake_any _).mono ?_; rintro e_ w1 ⟨rfl, hb⟩)
    have hBz : Below w.heap.size w w1 := below_step (w := w) (by first | assumption | go_grown) hb
    go_wp2
    go_returns
    exact ⟨rfl, hBz⟩
  have kb1 : decide ((500 : Int) < mp) = false := decide_eq_false b1
  by_cases b2 : (150 : Int) < nf
  · have kb2 : decide ((150 : Int) < nf) = true := decide_eq_true b2
    go_enter Try.func9, Try.ntmps9
    go_wp2_with fail
    (go_at_call 12; refine (awake_any _).mono ?_; rintro e_ w1 ⟨rfl, hb⟩)
    have hBz : Below w.heap.size w w1 := below_step (w := w) (by first | assumption | go_grown) hb
    go_wp2
    go_returns
    exact ⟨rfl, hBz⟩
  have kb2 : decide ((150 : Int) < nf) = false := decide_eq_false b2
  by_cases b3 : (150 : Int) < mf
  · have kb3 : decide ((150 : Int) < mf) = true := decide_eq_true b3
    go_enter Try.func9, Try.ntmps9
    go_wp2_with fail
    (go_at_call 12; refine (awake_any _).mono ?_; rintro e_ w1 ⟨rfl, hb⟩)
    have hBz : Below w.heap.size w w1 := below_step (w := w) (by first | assumption | go_grown) hb
    go_wp2
    go_returns
    exact ⟨rfl, hBz⟩
  have kb3 : decide ((150 : Int) < mf) = false := decide_eq_false b3
  by_cases he1 : E1 = 0
  rotate_left
  · have kE : (E1 == 0) = false := by simpa using he1
    have kE2 : (E1 != 0) = true := by simpa using he1
    clear he1
    go_enter Try.func9, Try.ntmps9
    go_wp2_with fail
    (go_at_call 15; refine (HV1.out _ (HMA.out.below (by first | assumption | go_grown))).mono ?_; rintro e_ w1 ⟨rfl, hb⟩)
    have hsw1 := hb.size
    (try simp only [World.size_alloc, World.size_setCell] at hsw1)
    have zzw1 : w.heap.size < w1.heap.size := by omega
    have hPw1 : Below w.heap.size w w1 := below_step (w := w) (by first | exact Below.refl _ _ | go_grown) hb
    have zaw1 : w.heap.size < w1.heap.size := by omega
    have a0w1 : w1.cell? ⟨w.heap.size, 0, none⟩ = some (.slice op np cp) := (hb.cell (p := ⟨_, _, none⟩) (by simp <;> omega)).trans (by simp [go_sem])
    have a1w1 : w1.cell? ⟨w.heap.size, 1, none⟩ = some (.slice of' nf cf) := (hb.cell (p := ⟨_, _, none⟩) (by simp <;> omega)).trans (by simp [go_sem])
    have zbw1 : w.heap.size + 1 < w1.heap.size := by omega
    have b0w1 : w1.cell? ⟨w.heap.size + 1, 0, none⟩ = some (.slice oq mp cq) := (hb.cell (p := ⟨_, _, none⟩) (by simp <;> omega)).trans (by simp [go_sem])
    have b1w1 : w1.cell? ⟨w.heap.size + 1, 1, none⟩ = some (.slice og mf cg) := (hb.cell (p := ⟨_, _, none⟩) (by simp <;> omega)).trans (by simp [go_sem])
    have hBw1 : Below w.heap.size w w1 := below_step (w := w) (by first | assumption | go_grown) hb
    clear hb hsw1 hPw1
    go_wp2_with fail
    (go_at_call 15; refine (HV2.out _ (HMB.out.below (by first | assumption | go_grown))).mono ?_; rintro e_ w2 ⟨rfl, hb⟩)
    have hsw2 := hb.size
    (try simp only [World.size_alloc, World.size_setCell] at hsw2)
    have zzw2 : w.heap.size < w2.heap.size := by omega
    have hPw2 : Below w1.heap.size w1 w2 := below_step (w := w1) (by first | exact Below.refl _ _ | go_grown) hb
    have zaw2 : w.heap.size < w2.heap.size := by omega
    have a0w2 : w2.cell? ⟨w.heap.size, 0, none⟩ = some (.slice op np cp) := (hPw2.cell (p := ⟨_, _, none⟩) zaw1).trans a0w1
    have a1w2 : w2.cell? ⟨w.heap.size, 1, none⟩ = some (.slice of' nf cf) := (hPw2.cell (p := ⟨_, _, none⟩) zaw1).trans a1w1
    have zbw2 : w.heap.size + 1 < w2.heap.size := by omega
    have b0w2 : w2.cell? ⟨w.heap.size + 1, 0, none⟩ = some (.slice oq mp cq) := (hPw2.cell (p := ⟨_, _, none⟩) zbw1).trans b0w1
    have b1w2 : w2.cell? ⟨w.heap.size + 1, 1, none⟩ = some (.slice og mf cg) := (hPw2.cell (p := ⟨_, _, none⟩) zbw1).trans b1w1
    have zvw2 : w1.heap.size < w2.heap.size := by omega
    have v0w2 : w2.cell? ⟨w1.heap.size, 0, none⟩ = some (.bool sv) := (hb.cell (p := ⟨_, _, none⟩) (by simp <;> omega)).trans (by simp [go_sem])
    have v1w2 : w2.cell? ⟨w1.heap.size, 1, none⟩ = some (.int .u64 (V 0)) := (hb.cell (p := ⟨_, _, none⟩) (by simp <;> omega)).trans (by simp [go_sem])
    have v2w2 : w2.cell? ⟨w1.heap.size, 2, none⟩ = some (.int .u64 (V 1)) := (hb.cell (p := ⟨_, _, none⟩) (by simp <;> omega)).trans (by simp [go_sem])
    have v3w2 : w2.cell? ⟨w1.heap.size, 3, none⟩ = some (.int .u64 (V 2)) := (hb.cell (p := ⟨_, _, none⟩) (by simp <;> omega)).trans (by simp [go_sem])
    have v4w2 : w2.cell? ⟨w1.heap.size, 4, none⟩ = some (.int .u64 (V 3)) := (hb.cell (p := ⟨_, _, none⟩) (by simp <;> omega)).trans (by simp [go_sem])
    have hBw2 : Below w.heap.size w w2 := below_step (w := w) (by first | assumption | go_grown) hb
    clear hb hsw2 hPw2
    clear zaw1 zbw1 a0w1 a1w1 b0w1 b1w1
    go_wp2_with fail
    (go_at_call 12; refine (awake_any _).mono ?_; rintro e_ w3 ⟨rfl, hb⟩)
    have hBz : Below w.heap.size w w3 := below_step (w := w) (by first | assumption | go_grown) hb
    go_wp2
    go_returns
    exact ⟨rfl, hBz⟩
  by_cases he2 : E2 = 0
  rotate_left
  · subst he1
    have kE : (E2 == 0) = false := by simpa using he2
    have kE2 : (E2 != 0) = true := by simpa using he2
    clear he2
    go_enter Try.func9, Try.ntmps9
    go_wp2_with fail
    (go_at_call 15; refine (HV1.out _ (HMA.out.below (by first | assumption | go_grown))).mono ?_; rintro e_ w1 ⟨rfl, hb⟩)
    have hsw1 := hb.size
    (try simp only [World.size_alloc, World.size_setCell] at hsw1)
    have zzw1 : w.heap.size < w1.heap.size := by omega
    have hPw1 : Below w.heap.size w w1 := below_step (w := w) (by first | exact Below.refl _ _ | go_grown) hb
    have zaw1 : w.heap.size < w1.heap.size := by omega
    have a0w1 : w1.cell? ⟨w.heap.size, 0, none⟩ = some (.slice op np cp) := (hb.cell (p := ⟨_, _, none⟩) (by simp <;> omega)).trans (by simp [go_sem])
    have a1w1 : w1.cell? ⟨w.heap.size, 1, none⟩ = some (.slice of' nf cf) := (hb.cell (p := ⟨_, _, none⟩) (by simp <;> omega)).trans (by simp [go_sem])
    have zbw1 : w.heap.size + 1 < w1.heap.size := by omega
    have b0w1 : w1.cell? ⟨w.heap.size + 1, 0, none⟩ = some (.slice oq mp cq) := (hb.cell (p := ⟨_, _, none⟩) (by simp <;> omega)).trans (by simp [go_sem])
    have b1w1 : w1.cell? ⟨w.heap.size + 1, 1, none⟩ = some (.slice og mf cg) := (hb.cell (p := ⟨_, _, none⟩) (by simp <;> omega)).trans (by simp [go_sem])
    have hBw1 : Below w.heap.size w w1 := below_step (w := w) (by first | assumption | go_grown) hb
    clear hb hsw1 hPw1
    go_wp2_with fail
    (go_at_call 15; refine (HV2.out _ (HMB.out.below (by first | assumption | go_grown))).mono ?_; rintro e_ w2 ⟨rfl, hb⟩)
    have hsw2 := hb.size
    (try simp only [World.size_alloc, World.size_setCell] at hsw2)
    have zzw2 : w.heap.size < w2.heap.size := by omega
    have hPw2 : Below w1.heap.size w1 w2 := below_step (w := w1) (by first | exact Below.refl _ _ | go_grown) hb
    have zaw2 : w.heap.size < w2.heap.size := by omega
    have a0w2 : w2.cell? ⟨w.heap.size, 0, none⟩ = some (.slice op np cp) := (hPw2.cell (p := ⟨_, _, none⟩) zaw1).trans a0w1
    have a1w2 : w2.cell? ⟨w.heap.size, 1, none⟩ = some (.slice of' nf cf) := (hPw2.cell (p := ⟨_, _, none⟩) zaw1).trans a1w1
    have zbw2 : w.heap.size + 1 < w2.heap.size := by omega
    have b0w2 : w2.cell? ⟨w.heap.size + 1, 0, none⟩ = some (.slice oq mp cq) := (hPw2.cell (p := ⟨_, _, none⟩) zbw1).trans b0w1
    have b1w2 : w2.cell? ⟨w.heap.size + 1, 1, none⟩ = some (.slice og mf cg) := (hPw2.cell (p := ⟨_, _, none⟩) zbw1).trans b1w1
    have zvw2 : w1.heap.size < w2.heap.size := by omega
    have v0w2 : w2.cell? ⟨w1.heap.size, 0, none⟩ = some (.bool sv) := (hb.cell (p := ⟨_, _, none⟩) (by simp <;> omega)).trans (by simp [go_sem])
    have v1w2 : w2.cell? ⟨w1.heap.size, 1, none⟩ = some (.int .u64 (V 0)) := (hb.cell (p := ⟨_, _, none⟩) (by simp <;> omega)).trans (by simp [go_sem])
    have v2w2 : w2.cell? ⟨w1.heap.size, 2, none⟩ = some (.int .u64 (V 1)) := (hb.cell (p := ⟨_, _, none⟩) (by simp <;> omega)).trans (by simp [go_sem])
    have v3w2 : w2.cell? ⟨w1.heap.size, 3, none⟩ = some (.int .u64 (V 2)) := (hb.cell (p := ⟨_, _, none⟩) (by simp <;> omega)).trans (by simp [go_sem])
    have v4w2 : w2.cell? ⟨w1.heap.size, 4, none⟩ = some (.int .u64 (V 3)) := (hb.cell (p := ⟨_, _, none⟩) (by simp <;> omega)).trans (by simp [go_sem])
    have hBw2 : Below w.heap.size w w2 := below_step (w := w) (by first | assumption | go_grown) hb
    clear hb hsw2 hPw2
    clear zaw1 zbw1 a0w1 a1w1 b0w1 b1w1
    go_wp2_with fail
    (go_at_call 12; refine (awake_any _).mono ?_; rintro e_ w3 ⟨rfl, hb⟩)
    have hBz : Below w.heap.size w w3 := below_step (w := w) (by first | assumption | go_grown) hb
    go_wp2
    go_returns
    exact ⟨rfl, hBz⟩
  subst he1
  subst he2
  have HGA : Hid (Good np P nf F) := check_iff.1 HE1.out
  have HGB : Hid (Good mp Q mf G) := check_iff.1 HE2.out
  obtain ⟨PP, hPP⟩ : ∃ X, glueF P Q np = X := ⟨_, rfl⟩
  obtain ⟨GF, hGF⟩ : ∃ X, glueF F (fun j => liftV np (G j)) nf = X := ⟨_, rfl⟩
  have HPP := Lib.hid hPP
  have HGF := Lib.hid hGF
  clear hPP hGF
  obtain ⟨iv, hiv, hziv0, hziv1, hziv2⟩ := infoR_parts info_vec
  obtain ⟨it, hit, hzit0, hzit1, hzit2⟩ := infoR_parts info_i3
  have huiv : Try.prog.underlying 22 = some (.slice 40) := Try.underlying22
  have huit : Try.prog.underlying 23 = some (.slice 56) := Try.underlying23
  obtain ⟨xa, xc, hxa, hxn, hxc⟩ := HPA.out.src
  cases hxa
  have HXA := Lib.hid hxc
  have HXN := Lib.hid hxn
  obtain ⟨ya, yc, hya, hyn, hyc⟩ := HPB.out.src
  cases hya
  have HYA := Lib.hid hyc
  have HYN := Lib.hid hyn
  obtain ⟨ta, tc, hta, htn, htc⟩ := HFA.out.src
  cases hta
  have HTA := Lib.hid htc
  have HTN := Lib.hid htn
  clear hxc hyc htc hxn hyn htn
  go_enter Try.func9, Try.ntmps9
  go_wp2_with fail
  (go_at_call 15; refine (HV1.out _ (HMA.out.below (by first | assumption | go_grown))).mono ?_; rintro e_ w1 ⟨rfl, hb⟩)
  have hsw1 := hb.size
  (try simp only [World.size_alloc, World.size_setCell] at hsw1)
  have zzw1 : w.heap.size < w1.heap.size := by omega
  have hPw1 : Below w.heap.size w w1 := below_step (w := w) (by first | exact Below.refl _ _ | go_grown) hb
  have zaw1 : w.heap.size < w1.heap.size := by omega
  have a0w1 : w1.cell? ⟨w.heap.size, 0, none⟩ = some (.slice op np cp) := (hb.cell (p := ⟨_, _, none⟩) (by simp <;> omega)).trans (by simp [go_sem])
  have a1w1 : w1.cell? ⟨w.heap.size, 1, none⟩ = some (.slice of' nf cf) := (hb.cell (p := ⟨_, _, none⟩) (by simp <;> omega)).trans (by simp [go_sem])
  have zbw1 : w.heap.size + 1 < w1.heap.size := by omega
  have b0w1 : w1.cell? ⟨w.heap.size + 1, 0, none⟩ = some (.slice oq mp cq) := (hb.cell (p := ⟨_, _, none⟩) (by simp <;> omega)).trans (by simp [go_sem])
  have b1w1 : w1.cell? ⟨w.heap.size + 1, 1, none⟩ = some (.slice og mf cg) := (hb.cell (p := ⟨_, _, none⟩) (by simp <;> omega)).trans (by simp [go_sem])
  have hBw1 : Below w.heap.size w w1 := below_step (w := w) (by first | assumption | go_grown) hb
  clear hb hsw1 hPw1
  go_wp2_with fail
  (go_at_call 15; refine (HV2.out _ (HMB.out.below (by first | assumption | go_grown))).mono ?_; rintro e_ w2 ⟨rfl, hb⟩)
  have hsw2 := hb.size
  (try simp only [World.size_alloc, World.size_setCell] at hsw2)
  have zzw2 : w.heap.size < w2.heap.size := by omega
  have hPw2 : Below w1.heap.size w1 w2 := below_step (w := w1) (by first | exact Below.refl _ _ | go_grown) hb
  have zaw2 : w.heap.size < w2.heap.size := by omega
  have a0w2 : w2.cell? ⟨w.heap.size, 0, none⟩ = some (.slice op np cp) := (hPw2.cell (p := ⟨_, _, none⟩) zaw1).trans a0w1
  have a1w2 : w2.cell? ⟨w.heap.size, 1, none⟩ = some (.slice of' nf cf) := (hPw2.cell (p := ⟨_, _, none⟩) zaw1).trans a1w1
  have zbw2 : w.heap.size + 1 < w2.heap.size := by omega
  have b0w2 : w2.cell? ⟨w.heap.size + 1, 0, none⟩ = some (.slice oq mp cq) := (hPw2.cell (p := ⟨_, _, none⟩) zbw1).trans b0w1
  have b1w2 : w2.cell? ⟨w.heap.size + 1, 1, none⟩ = some (.slice og mf cg) := (hPw2.cell (p := ⟨_, _, none⟩) zbw1).trans b1w1
  have zvw2 : w1.heap.size < w2.heap.size := by omega
  have v0w2 : w2.cell? ⟨w1.heap.size, 0, none⟩ = some (.bool sv) := (hb.cell (p := ⟨_, _, none⟩) (by simp <;> omega)).trans (by simp [go_sem])
  have v1w2 : w2.cell? ⟨w1.heap.size, 1, none⟩ = some (.int .u64 (V 0)) := (hb.cell (p := ⟨_, _, none⟩) (by simp <;> omega)).trans (by simp [go_sem])
  have v2w2 : w2.cell? ⟨w1.heap.size, 2, none⟩ = some (.int .u64 (V 1)) := (hb.cell (p := ⟨_, _, none⟩) (by simp <;> omega)).trans (by simp [go_sem])
  have v3w2 : w2.cell? ⟨w1.heap.size, 3, none⟩ = some (.int .u64 (V 2)) := (hb.cell (p := ⟨_, _, none⟩) (by simp <;> omega)).trans (by simp [go_sem])
  have v4w2 : w2.cell? ⟨w1.heap.size, 4, none⟩ = some (.int .u64 (V 3)) := (hb.cell (p := ⟨_, _, none⟩) (by simp <;> omega)).trans (by simp [go_sem])
  have hBw2 : Below w.heap.size w w2 := below_step (w := w) (by first | assumption | go_grown) hb
  clear hb hsw2 hPw2
  clear zaw1 zbw1 a0w1 a1w1 b0w1 b1w1
  have dM0 : w.heap.size ≠ (w2.heap.size + 1) := by omega
  have dM1 : w.heap.size + 1 ≠ (w2.heap.size + 1) := by omega
  have dM2 : w1.heap.size ≠ (w2.heap.size + 1) := by omega
  have hn1 := HGA.out.n1
  have hn2 := HGA.out.n2
  have hn3 := HGB.out.n1
  have hn4 := HGB.out.n2
  go_wp2_with (at_builtin; refine wpList_append2 rfl _ _ 22 rfl (w2.heap.size + 1 + 1) 40 iv _ 3 24 huiv hiv hziv0 hziv1 hziv2 rfl (by decide) _ (0) ([]) rfl (World.ownsRow_nil _ _ _ _) op np cp (flV P np) rfl (flV_len _ _) HXN.out ?d2 (flV_one _ _) (by unfold maxLen; omega) (by omega) ?d6 ?_)
  case d2 => exact src_below HXA.out (by go_grown)
  case d6 => simp <;> omega
  intro s1 w4 hown hgrow hnew
  replace hown : w4.ownsRow (w2.heap.size + 1 + 1) 40 3 s1 np (flV P np) := by simpa using hown
  have hG4 := Below.gnone hgrow
  have hB24 : Below w2.heap.size w2 w4 := below_step (w := w2) (by go_grown) hG4
  have hBw4 : Below w.heap.size w w4 := below_step hBw2 hB24
  have hz4 := hG4.size
  simp only [World.size_alloc] at hz4
  have HM4 : Hid (w4.heap[(w2.heap.size + 1)]? = some (.cells #[.slice none 0 0, .slice none 0 0] 25)) := (hG4.block _ (by simp)).trans (heapA_at _ _ _ (by simp))
  have HW4 : Hid (w4.heap[w2.heap.size]? = some (.cells #[.bool sw, .int .u64 (U 0), .int .u64 (U 1), .int .u64 (U 2), .int .u64 (U 3)] 33)) := (hG4.block _ (by simp <;> omega)).trans ((heapA_old _ _ _ (by simp)).trans (heapA_at _ _ _ rfl))
  have a0w4 : w4.cell? ⟨w.heap.size, 0, none⟩ = some (.slice op np cp) := (hB24.cell (p := ⟨w.heap.size, 0, none⟩) (by show w.heap.size < _; omega)).trans a0w2
  have a1w4 : w4.cell? ⟨w.heap.size, 1, none⟩ = some (.slice of' nf cf) := (hB24.cell (p := ⟨w.heap.size, 1, none⟩) (by show w.heap.size < _; omega)).trans a1w2
  have b0w4 : w4.cell? ⟨w.heap.size + 1, 0, none⟩ = some (.slice oq mp cq) := (hB24.cell (p := ⟨w.heap.size + 1, 0, none⟩) (by show w.heap.size + 1 < _; omega)).trans b0w2
  have b1w4 : w4.cell? ⟨w.heap.size + 1, 1, none⟩ = some (.slice og mf cg) := (hB24.cell (p := ⟨w.heap.size + 1, 1, none⟩) (by show w.heap.size + 1 < _; omega)).trans b1w2
  have v0w4 : w4.cell? ⟨w1.heap.size, 0, none⟩ = some (.bool sv) := (hB24.cell (p := ⟨w1.heap.size, 0, none⟩) (by show w1.heap.size < _; omega)).trans v0w2
  have v1w4 : w4.cell? ⟨w1.heap.size, 1, none⟩ = some (.int .u64 (V 0)) := (hB24.cell (p := ⟨w1.heap.size, 1, none⟩) (by show w1.heap.size < _; omega)).trans v1w2
  have v2w4 : w4.cell? ⟨w1.heap.size, 2, none⟩ = some (.int .u64 (V 1)) := (hB24.cell (p := ⟨w1.heap.size, 2, none⟩) (by show w1.heap.size < _; omega)).trans v2w2
  have v3w4 : w4.cell? ⟨w1.heap.size, 3, none⟩ = some (.int .u64 (V 2)) := (hB24.cell (p := ⟨w1.heap.size, 3, none⟩) (by show w1.heap.size < _; omega)).trans v3w2
  have v4w4 : w4.cell? ⟨w1.heap.size, 4, none⟩ = some (.int .u64 (V 3)) := (hB24.cell (p := ⟨w1.heap.size, 4, none⟩) (by show w1.heap.size < _; omega)).trans v4w2
  clear a0w2 a1w2 b0w2 b1w2 v0w2 v1w2 v2w2 v3w2 v4w2
  obtain ⟨o1, k1, rfl, -, -, -⟩ := (owns_R (F := P) hown).form
  have HO1 := Lib.hid hown
  obtain ⟨m0, m1, mz, ms⟩ := cells_at2 HM4.out
  have HN1 : Hid (∀ b, b < w2.heap.size + 1 + 1 → some b ≠ (Value.slice o1 np k1).ownBlock) := fun b hb => owns_low HO1.out hb
  clear hown hgrow hnew hG4 hB24
  go_wp2_with (at_builtin; refine wpList_append2 rfl _ _ 22 rfl (w2.heap.size + 1 + 1) 40 iv _ 3 24 huiv hiv hziv0 hziv1 hziv2 rfl (by decide) _ (np) (flV P np) rfl (owns_kept HO1.out (by simp) (fun g hg => heapS_other _ _ _ _ _ (fun e => HN1.out g (by omega) hg.symm))) oq mp cq (flV Q mp) rfl (flV_len _ _) HYN.out ?d2 (flV_one _ _) (by unfold maxLen; omega) (by omega) ?d6 ?_)
  case d2 => exact src_below HYA.out (by go_grown)
  case d6 => simp <;> omega
  intro s2 w5 hown hgrow hnew
  replace hown : w5.ownsRow (w2.heap.size + 1 + 1) 40 3 s2 (np + mp) (flV PP (np + mp)) := by
    have h := hown
    rw [flV_app, HPP.out] at h
    exact h
  have hz5 := hgrow.size
  simp only [World.size_setCell] at hz5
  have hK5 : Below (w2.heap.size + 1) w4 w5 := Below.grown (by go_grown) hgrow (by simp <;> omega) (fun g hg => by
    rcases Nat.lt_or_ge g (w2.heap.size + 1 + 1) with h' | h'
    · exact absurd hg.symm (HN1.out _ h')
    · omega)
  have HM5 : Hid (w5.heap[(w2.heap.size + 1)]? = some (.cells #[.slice o1 np k1, .slice none 0 0] 25)) := by
    show _ = _
    rw [hgrow.block _ (by simp <;> omega) (HN1.out _ (by omega)), heapS_same, HM4.out]
    rfl
  have HW5 : Hid (w5.heap[w2.heap.size]? = some (.cells #[.bool sw, .int .u64 (U 0), .int .u64 (U 1), .int .u64 (U 2), .int .u64 (U 3)] 33)) := (hK5.block _ (by omega)).trans HW4.out
  have a0w5 : w5.cell? ⟨w.heap.size, 0, none⟩ = some (.slice op np cp) := (hK5.cell (p := ⟨w.heap.size, 0, none⟩) (by show w.heap.size < _; omega)).trans a0w4
  have a1w5 : w5.cell? ⟨w.heap.size, 1, none⟩ = some (.slice of' nf cf) := (hK5.cell (p := ⟨w.heap.size, 1, none⟩) (by show w.heap.size < _; omega)).trans a1w4
  have b0w5 : w5.cell? ⟨w.heap.size + 1, 0, none⟩ = some (.slice oq mp cq) := (hK5.cell (p := ⟨w.heap.size + 1, 0, none⟩) (by show w.heap.size + 1 < _; omega)).trans b0w4
  have b1w5 : w5.cell? ⟨w.heap.size + 1, 1, none⟩ = some (.slice og mf cg) := (hK5.cell (p := ⟨w.heap.size + 1, 1, none⟩) (by show w.heap.size + 1 < _; omega)).trans b1w4
  have v0w5 : w5.cell? ⟨w1.heap.size, 0, none⟩ = some (.bool sv) := (hK5.cell (p := ⟨w1.heap.size, 0, none⟩) (by show w1.heap.size < _; omega)).trans v0w4
  have v1w5 : w5.cell? ⟨w1.heap.size, 1, none⟩ = some (.int .u64 (V 0)) := (hK5.cell (p := ⟨w1.heap.size, 1, none⟩) (by show w1.heap.size < _; omega)).trans v1w4
  have v2w5 : w5.cell? ⟨w1.heap.size, 2, none⟩ = some (.int .u64 (V 1)) := (hK5.cell (p := ⟨w1.heap.size, 2, none⟩) (by show w1.heap.size < _; omega)).trans v2w4
  have v3w5 : w5.cell? ⟨w1.heap.size, 3, none⟩ = some (.int .u64 (V 2)) := (hK5.cell (p := ⟨w1.heap.size, 3, none⟩) (by show w1.heap.size < _; omega)).trans v3w4
  have v4w5 : w5.cell? ⟨w1.heap.size, 4, none⟩ = some (.int .u64 (V 3)) := (hK5.cell (p := ⟨w1.heap.size, 4, none⟩) (by show w1.heap.size < _; omega)).trans v4w4
  clear a0w4 a1w4 b0w4 b1w4 v0w4 v1w4 v2w4 v3w4 v4w4
  have hBw5 : Below w.heap.size w w5 := hBw4.trans (hK5.mono (by omega))
  obtain ⟨o2, k2, rfl, -, -, -⟩ := (owns_R (F := PP) hown).form
  have HO2 := Lib.hid hown
  have HN2 : Hid (∀ b, b < w2.heap.size + 1 + 1 → some b ≠ (Value.slice o2 (np + mp) k2).ownBlock) := fun b hb => owns_low HO2.out hb
  clear hown hgrow hnew m0 m1 mz hK5
  obtain ⟨m0, m1, mz, ms5⟩ := cells_at2 HM5.out
  go_wp2_with (at_builtin; refine wpList_append2 rfl _ _ 23 rfl (w5.heap.size) 56 it _ 3 24 huit hit hzit0 hzit1 hzit2 rfl (by decide) _ (0) ([]) rfl (World.ownsRow_nil _ _ _ _) of' nf cf (flV F nf) rfl (flV_len _ _) HTN.out ?d2 (flV_one _ _) (by unfold maxLen; omega) (by omega) ?d6 ?_)
  case d2 => exact src_below HTA.out (by go_grown)
  case d6 => simp <;> omega
  intro t1 w6 hown hgrow hnew
  replace hown : w6.ownsRow w5.heap.size 56 3 t1 nf (flV F nf) := by simpa using hown
  have hG6 := Below.gnone hgrow
  have hz6 := hG6.size
  simp only [World.size_setCell] at hz6
  have HM6 : Hid (w6.heap[(w2.heap.size + 1)]? = some (.cells #[.slice o2 (np + mp) k2, .slice none 0 0] 25)) := by
    show _ = _
    rw [hG6.block _ (by simp <;> omega), heapS_same, HM5.out]
    rfl
  have hK56 : Below (w2.heap.size + 1) w5 w6 := Below.grown (by go_grown) hgrow (by simp <;> omega) (fun g hg => by cases hg)
  have HW6 : Hid (w6.heap[w2.heap.size]? = some (.cells #[.bool sw, .int .u64 (U 0), .int .u64 (U 1), .int .u64 (U 2), .int .u64 (U 3)] 33)) := (hK56.block _ (by omega)).trans HW5.out
  have a0w6 : w6.cell? ⟨w.heap.size, 0, none⟩ = some (.slice op np cp) := (hK56.cell (p := ⟨w.heap.size, 0, none⟩) (by show w.heap.size < _; omega)).trans a0w5
  have a1w6 : w6.cell? ⟨w.heap.size, 1, none⟩ = some (.slice of' nf cf) := (hK56.cell (p := ⟨w.heap.size, 1, none⟩) (by show w.heap.size < _; omega)).trans a1w5
  have b0w6 : w6.cell? ⟨w.heap.size + 1, 0, none⟩ = some (.slice oq mp cq) := (hK56.cell (p := ⟨w.heap.size + 1, 0, none⟩) (by show w.heap.size + 1 < _; omega)).trans b0w5
  have b1w6 : w6.cell? ⟨w.heap.size + 1, 1, none⟩ = some (.slice og mf cg) := (hK56.cell (p := ⟨w.heap.size + 1, 1, none⟩) (by show w.heap.size + 1 < _; omega)).trans b1w5
  have v0w6 : w6.cell? ⟨w1.heap.size, 0, none⟩ = some (.bool sv) := (hK56.cell (p := ⟨w1.heap.size, 0, none⟩) (by show w1.heap.size < _; omega)).trans v0w5
  have v1w6 : w6.cell? ⟨w1.heap.size, 1, none⟩ = some (.int .u64 (V 0)) := (hK56.cell (p := ⟨w1.heap.size, 1, none⟩) (by show w1.heap.size < _; omega)).trans v1w5
  have v2w6 : w6.cell? ⟨w1.heap.size, 2, none⟩ = some (.int .u64 (V 1)) := (hK56.cell (p := ⟨w1.heap.size, 2, none⟩) (by show w1.heap.size < _; omega)).trans v2w5
  have v3w6 : w6.cell? ⟨w1.heap.size, 3, none⟩ = some (.int .u64 (V 2)) := (hK56.cell (p := ⟨w1.heap.size, 3, none⟩) (by show w1.heap.size < _; omega)).trans v3w5
  have v4w6 : w6.cell? ⟨w1.heap.size, 4, none⟩ = some (.int .u64 (V 3)) := (hK56.cell (p := ⟨w1.heap.size, 4, none⟩) (by show w1.heap.size < _; omega)).trans v4w5
  clear a0w5 a1w5 b0w5 b1w5 v0w5 v1w5 v2w5 v3w5 v4w5
  have hBw6 : Below w.heap.size w w6 := hBw5.trans (hK56.mono (by omega))
  have HP6 : Hid (RowAt w6 (.slice o2 (np + mp) k2) (np + mp) PP) := ((owns_R HO2.out).set 0 _ (HN2.out _ (by omega))).below hG6
  have HPL : Hid (∀ g, (Value.slice o2 (np + mp) k2).ownBlock = some g → g < w5.heap.size ∧ g ≠ (w2.heap.size + 1)) := fun g hg => ⟨(HO2.out.lt g hg).2, fun e => HN2.out (w2.heap.size + 1) (by omega) (by rw [hg, e])⟩
  have hFG : flV F nf = flV GF nf := flV_congr (fun i hi => by rw [← HGF.out]; unfold glueF; rw [if_pos hi])
  rw [hFG] at hown
  obtain ⟨ot, kt, rfl, -, -, -⟩ := (owns_R (F := GF) hown).form
  have HT1 := Lib.hid hown
  have hz56 : w5.heap.size ≤ w6.heap.size := by omega
  clear hown hgrow hnew m0 m1 mz hG6 hFG hK56
  obtain ⟨m0, m1, mz, ms6⟩ := cells_at2 HM6.out
  have HNT : Hid (∀ b, b < w5.heap.size → some b ≠ (Value.slice ot nf kt).ownBlock) := fun b hb => owns_low HT1.out hb
  go_wp2
  go_loopw [11] (fun i wr => ∃ (j : Nat) (ot : Option Addr) (ct : Nat), j ≤ mf ∧ i = .int .i64 j ∧ Hid (wr.heap[(w2.heap.size + 1)]? = some (.cells #[.slice o2 (np + mp) k2, .slice ot (nf + j) ct] 25)) ∧ Hid (wr.ownsRow w5.heap.size 56 3 (.slice ot (nf + j) ct) (nf + j) (flV GF (nf + j))) ∧ Hid (∀ b, b < w5.heap.size → b ≠ (w2.heap.size + 1) → wr.heap[b]? = w6.heap[b]?) ∧ w6.heap.size ≤ wr.heap.size ∧ Below w.heap.size w wr) (fun i _ => mf - (intOf i).toNat)
  case atStart =>
    refine ⟨0, ot, kt, by omega, rfl, ?_, owns_kept HT1.out (by simp) (fun g hg => heapS_other _ _ _ _ _ (fun e => HNT.out g (by omega) hg.symm)), fun b hb hne => heapS_other _ _ _ _ _ hne, by simp <;> omega, by go_grown⟩
    show _ = _
    rw [heapS_same, HM6.out]
    rfl
  case round =>
    clear m0 m1 mz ms6
    obtain ⟨w7, rfl⟩ : ∃ x : World, x = wr := ⟨_, rfl⟩
    obtain ⟨j, ot, ct, hj, rfl, HM7, HT, HKK, hz57, hBw7⟩ := hrel
    have b1w7 : w7.cell? ⟨w.heap.size + 1, 1, none⟩ = some (.slice og mf cg) := (cellK 1 (HKK.out _ (by omega) (by omega))).trans b1w6
    obtain ⟨m0, m1, mz, ms7⟩ := cells_at2 HM7.out
    have zb7 : w.heap.size + 1 < w7.heap.size := by omega
    by_cases hlt : j < mf
    · obtain ⟨b1, f1, rfl, hbl1, hcl1⟩ := HEG.out j hlt
      have c0 : w7.cell? ⟨b1, f1 + j * 3, none⟩ = some (.int .i64 (G j).1) := (hBw7.cell (p := ⟨_, _, none⟩) hbl1).trans (hcl1 j hlt).1
      have c1 : w7.cell? ⟨b1, f1 + j * 3 + 1, none⟩ = some (.int .i64 (G j).2.1) := (hBw7.cell (p := ⟨_, _, none⟩) hbl1).trans (hcl1 j hlt).2.1
      have c2 : w7.cell? ⟨b1, f1 + j * 3 + 2, none⟩ = some (.int .i64 (G j).2.2) := (hBw7.cell (p := ⟨_, _, none⟩) hbl1).trans (hcl1 j hlt).2.2
      have hbr : b1 < w7.heap.size := by omega
      have k0 : (0 : Int) ≤ (j : Int) := by omega
      have k1 : (j : Int) < (mf : Int) := by omega
      have hidx := HGB.out.idx j hlt
      obtain ⟨x, hx⟩ : ∃ x, (G j).1 = x := ⟨_, rfl⟩
      obtain ⟨y, hy⟩ : ∃ x, (G j).2.1 = x := ⟨_, rfl⟩
      obtain ⟨z, hz⟩ : ∃ x, (G j).2.2 = x := ⟨_, rfl⟩
      obtain ⟨X, hX⟩ : ∃ e, x + (np : Int) = e := ⟨_, rfl⟩
      obtain ⟨Y, hY⟩ : ∃ e, y + (np : Int) = e := ⟨_, rfl⟩
      obtain ⟨Z, hZ⟩ : ∃ e, z + (np : Int) = e := ⟨_, rfl⟩
      rw [hx, hy, hz] at hidx
      have wX : IntKind.i64.wrap (x + (np : Int)) = X := by rw [hX]; exact IntWalk.i64_in _ (by omega)
      have wY : IntKind.i64.wrap (y + (np : Int)) = Y := by rw [hY]; exact IntWalk.i64_in _ (by omega)
      have wZ : IntKind.i64.wrap (z + (np : Int)) = Z := by rw [hZ]; exact IntWalk.i64_in _ (by omega)
      have HFL : Hid (flV GF (nf + j) ++ [.int .i64 X, .int .i64 Y, .int .i64 Z] = flV GF (nf + (j + 1))) := by
        show _ = _
        rw [show nf + (j + 1) = (nf + j) + 1 by omega, flV, ← HGF.out, glue_step, ← hX, ← hY, ← hZ, ← hx, ← hy, ← hz]
        rfl
      rw [hx] at c0
      rw [hy] at c1
      rw [hz] at c2
      obtain ⟨i0, hi0, hz00, hz01, hz02⟩ := infoR_parts info_i3
      have hu0 := huit
      have HNB : Hid (∀ b, b < w5.heap.size → some b ≠ (Value.slice ot (nf + j) ct).ownBlock) := fun b hb => owns_low HT.out hb
      clear hcl1 hidx hx hy hz hX hY hZ
      go_wp2_with fail
      refine wp_region_relm 30 28 [0, 1, 2, 3, 4, 5, 6, 7, 8, 9, 10, 11, 12, 13, 14, 15, 16, 17, 18, 19, 20, 21, 22, 23, 24, 25, 26, 27] (by kernel_rfl) (by kernel_rfl) (by kernel_rfl) (by decide) (by kernel_rfl) ?_
      simp only [List.take_succ_cons, List.take_zero, fillL, Act.put, List.setIfInBounds_toArray, List.set_cons_zero, List.set_cons_succ]
      apply relm_is (by decide) (by decide)
      · intro u wx hb hd
        have hz := hb.size
        (try simp only [World.size_alloc, World.size_setCell] at hz)
        have hz0 : (w2.heap.size + 1) < wx.heap.size := by omega
        have hz1 : w.heap.size + 1 < wx.heap.size := by omega
        have hz2 : b1 < wx.heap.size := by omega
        obtain ⟨hc, hf⟩ := bcell hb
        have HBX := Lib.hid hb
        clear hb hz
        simp [depsS, Region.binds, updS, Stay.is, Stay.any] at hd
        go_simp
        first | exact ⟨Below.refl _ _, rfl⟩ | rfl
      apply relm_is (by decide) (by decide)
      · intro u wx hb hd
        have hz := hb.size
        (try simp only [World.size_alloc, World.size_setCell] at hz)
        have hz0 : (w2.heap.size + 1) < wx.heap.size := by omega
        have hz1 : w.heap.size + 1 < wx.heap.size := by omega
        have hz2 : b1 < wx.heap.size := by omega
        obtain ⟨hc, hf⟩ := bcell hb
        have HBX := Lib.hid hb
        clear hb hz
        simp [depsS, Region.binds, updS, Stay.is, Stay.any] at hd
        go_simp
        first | exact ⟨Below.refl _ _, rfl⟩ | rfl
      apply relm_is (by decide) (by decide)
      · intro u wx hb hd
        have hz := hb.size
        (try simp only [World.size_alloc, World.size_setCell] at hz)
        have hz0 : (w2.heap.size + 1) < wx.heap.size := by omega
        have hz1 : w.heap.size + 1 < wx.heap.size := by omega
        have hz2 : b1 < wx.heap.size := by omega
        obtain ⟨hc, hf⟩ := bcell hb
        have HBX := Lib.hid hb
        clear hb hz
        simp [depsS, Region.binds, updS, Stay.is, Stay.any] at hd
        go_simp
        first | exact ⟨Below.refl _ _, rfl⟩ | rfl
      apply relm_is (by decide) (by decide)
      · intro u wx hb hd
        have hz := hb.size
        (try simp only [World.size_alloc, World.size_setCell] at hz)
        have hz0 : (w2.heap.size + 1) < wx.heap.size := by omega
        have hz1 : w.heap.size + 1 < wx.heap.size := by omega
        have hz2 : b1 < wx.heap.size := by omega
        obtain ⟨hc, hf⟩ := bcell hb
        have HBX := Lib.hid hb
        clear hb hz
        simp [depsS, Region.binds, updS, Stay.is, Stay.any] at hd
        go_simp
        first | exact ⟨Below.refl _ _, rfl⟩ | rfl
      apply relm_is (by decide) (by decide)
      · intro u wx hb hd
        have hz := hb.size
        (try simp only [World.size_alloc, World.size_setCell] at hz)
        have hz0 : (w2.heap.size + 1) < wx.heap.size := by omega
        have hz1 : w.heap.size + 1 < wx.heap.size := by omega
        have hz2 : b1 < wx.heap.size := by omega
        obtain ⟨hc, hf⟩ := bcell hb
        have HBX := Lib.hid hb
        clear hb hz
        simp [depsS, Region.binds, updS, Stay.is, Stay.any] at hd
        go_simp
        first | exact ⟨Below.refl _ _, rfl⟩ | rfl
      apply relm_is (by decide) (by decide)
      · intro u wx hb hd
        have hz := hb.size
        (try simp only [World.size_alloc, World.size_setCell] at hz)
        have hz0 : (w2.heap.size + 1) < wx.heap.size := by omega
        have hz1 : w.heap.size + 1 < wx.heap.size := by omega
        have hz2 : b1 < wx.heap.size := by omega
        obtain ⟨hc, hf⟩ := bcell hb
        have HBX := Lib.hid hb
        clear hb hz
        simp [depsS, Region.binds, updS, Stay.is, Stay.any] at hd
        go_simp
        first | exact ⟨Below.refl _ _, rfl⟩ | rfl
      apply relm_is (by decide) (by decide)
      · intro u wx hb hd
        have hz := hb.size
        (try simp only [World.size_alloc, World.size_setCell] at hz)
        have hz0 : (w2.heap.size + 1) < wx.heap.size := by omega
        have hz1 : w.heap.size + 1 < wx.heap.size := by omega
        have hz2 : b1 < wx.heap.size := by omega
        obtain ⟨hc, hf⟩ := bcell hb
        have HBX := Lib.hid hb
        clear hb hz
        simp [depsS, Region.binds, updS, Stay.is, Stay.any] at hd
        go_simp
        first | exact ⟨Below.refl _ _, rfl⟩ | rfl
      apply relm_is (by decide) (by decide)
      · intro u wx hb hd
        have hz := hb.size
        (try simp only [World.size_alloc, World.size_setCell] at hz)
        have hz0 : (w2.heap.size + 1) < wx.heap.size := by omega
        have hz1 : w.heap.size + 1 < wx.heap.size := by omega
        have hz2 : b1 < wx.heap.size := by omega
        obtain ⟨hc, hf⟩ := bcell hb
        have HBX := Lib.hid hb
        clear hb hz
        simp [depsS, Region.binds, updS, Stay.is, Stay.any] at hd
        go_simp
        first | exact ⟨Below.refl _ _, rfl⟩ | rfl
      apply relm_is (by decide) (by decide)
      · intro u wx hb hd
        have hz := hb.size
        (try simp only [World.size_alloc, World.size_setCell] at hz)
        have hz0 : (w2.heap.size + 1) < wx.heap.size := by omega
        have hz1 : w.heap.size + 1 < wx.heap.size := by omega
        have hz2 : b1 < wx.heap.size := by omega
        obtain ⟨hc, hf⟩ := bcell hb
        have HBX := Lib.hid hb
        clear hb hz
        simp [depsS, Region.binds, updS, Stay.is, Stay.any] at hd
        go_simp
        first | exact ⟨Below.refl _ _, rfl⟩ | rfl
      apply relm_is (by decide) (by decide)
      · intro u wx hb hd
        have hz := hb.size
        (try simp only [World.size_alloc, World.size_setCell] at hz)
        have hz0 : (w2.heap.size + 1) < wx.heap.size := by omega
        have hz1 : w.heap.size + 1 < wx.heap.size := by omega
        have hz2 : b1 < wx.heap.size := by omega
        obtain ⟨hc, hf⟩ := bcell hb
        have HBX := Lib.hid hb
        clear hb hz
        simp [depsS, Region.binds, updS, Stay.is, Stay.any] at hd
        go_simp
        first | exact ⟨Below.refl _ _, rfl⟩ | rfl
      apply relm_is (by decide) (by decide)
      · intro u wx hb hd
        have hz := hb.size
        (try simp only [World.size_alloc, World.size_setCell] at hz)
        have hz0 : (w2.heap.size + 1) < wx.heap.size := by omega
        have hz1 : w.heap.size + 1 < wx.heap.size := by omega
        have hz2 : b1 < wx.heap.size := by omega
        obtain ⟨hc, hf⟩ := bcell hb
        have HBX := Lib.hid hb
        clear hb hz
        simp [depsS, Region.binds, updS, Stay.is, Stay.any] at hd
        go_simp
        first | exact ⟨Below.refl _ _, rfl⟩ | rfl
      apply relm_is (by decide) (by decide)
      · intro u wx hb hd
        have hz := hb.size
        (try simp only [World.size_alloc, World.size_setCell] at hz)
        have hz0 : (w2.heap.size + 1) < wx.heap.size := by omega
        have hz1 : w.heap.size + 1 < wx.heap.size := by omega
        have hz2 : b1 < wx.heap.size := by omega
        obtain ⟨hc, hf⟩ := bcell hb
        have HBX := Lib.hid hb
        clear hb hz
        simp [depsS, Region.binds, updS, Stay.is, Stay.any] at hd
        go_simp
        first | exact ⟨Below.refl _ _, rfl⟩ | rfl
      apply relm_is (by decide) (by decide)
      · intro u wx hb hd
        have hz := hb.size
        (try simp only [World.size_alloc, World.size_setCell] at hz)
        have hz0 : (w2.heap.size + 1) < wx.heap.size := by omega
        have hz1 : w.heap.size + 1 < wx.heap.size := by omega
        have hz2 : b1 < wx.heap.size := by omega
        obtain ⟨hc, hf⟩ := bcell hb
        have HBX := Lib.hid hb
        clear hb hz
        simp [depsS, Region.binds, updS, Stay.is, Stay.any] at hd
        go_simp
        first | exact ⟨Below.refl _ _, rfl⟩ | rfl
      apply relm_is (by decide) (by decide)
      · intro u wx hb hd
        have hz := hb.size
        (try simp only [World.size_alloc, World.size_setCell] at hz)
        have hz0 : (w2.heap.size + 1) < wx.heap.size := by omega
        have hz1 : w.heap.size + 1 < wx.heap.size := by omega
        have hz2 : b1 < wx.heap.size := by omega
        obtain ⟨hc, hf⟩ := bcell hb
        have HBX := Lib.hid hb
        clear hb hz
        simp [depsS, Region.binds, updS, Stay.is, Stay.any] at hd
        go_simp
        first | exact ⟨Below.refl _ _, rfl⟩ | rfl
      apply relm_is (by decide) (by decide)
      · intro u wx hb hd
        have hz := hb.size
        (try simp only [World.size_alloc, World.size_setCell] at hz)
        have hz0 : (w2.heap.size + 1) < wx.heap.size := by omega
        have hz1 : w.heap.size + 1 < wx.heap.size := by omega
        have hz2 : b1 < wx.heap.size := by omega
        obtain ⟨hc, hf⟩ := bcell hb
        have HBX := Lib.hid hb
        clear hb hz
        simp [depsS, Region.binds, updS, Stay.is, Stay.any] at hd
        go_simp
        first | exact ⟨Below.refl _ _, rfl⟩ | rfl
      apply relm_is (by decide) (by decide)
      · intro u wx hb hd
        have hz := hb.size
        (try simp only [World.size_alloc, World.size_setCell] at hz)
        have hz0 : (w2.heap.size + 1) < wx.heap.size := by omega
        have hz1 : w.heap.size + 1 < wx.heap.size := by omega
        have hz2 : b1 < wx.heap.size := by omega
        obtain ⟨hc, hf⟩ := bcell hb
        have HBX := Lib.hid hb
        clear hb hz
        simp [depsS, Region.binds, updS, Stay.is, Stay.any] at hd
        go_simp
        first | exact ⟨Below.refl _ _, rfl⟩ | rfl
      apply relm_is (by decide) (by decide)
      · intro u wx hb hd
        have hz := hb.size
        (try simp only [World.size_alloc, World.size_setCell] at hz)
        have hz0 : (w2.heap.size + 1) < wx.heap.size := by omega
        have hz1 : w.heap.size + 1 < wx.heap.size := by omega
        have hz2 : b1 < wx.heap.size := by omega
        obtain ⟨hc, hf⟩ := bcell hb
        have HBX := Lib.hid hb
        clear hb hz
        simp [depsS, Region.binds, updS, Stay.is, Stay.any] at hd
        go_simp
        first | exact ⟨Below.refl _ _, rfl⟩ | rfl
      apply relm_is (by decide) (by decide)
      · intro u wx hb hd
        have hz := hb.size
        (try simp only [World.size_alloc, World.size_setCell] at hz)
        have hz0 : (w2.heap.size + 1) < wx.heap.size := by omega
        have hz1 : w.heap.size + 1 < wx.heap.size := by omega
        have hz2 : b1 < wx.heap.size := by omega
        obtain ⟨hc, hf⟩ := bcell hb
        have HBX := Lib.hid hb
        clear hb hz
        simp [depsS, Region.binds, updS, Stay.is, Stay.any] at hd
        go_simp
        first | exact ⟨Below.refl _ _, rfl⟩ | rfl
      apply relm_is (by decide) (by decide)
      · intro u wx hb hd
        have hz := hb.size
        (try simp only [World.size_alloc, World.size_setCell] at hz)
        have hz0 : (w2.heap.size + 1) < wx.heap.size := by omega
        have hz1 : w.heap.size + 1 < wx.heap.size := by omega
        have hz2 : b1 < wx.heap.size := by omega
        obtain ⟨hc, hf⟩ := bcell hb
        have HBX := Lib.hid hb
        clear hb hz
        simp [depsS, Region.binds, updS, Stay.is, Stay.any] at hd
        go_simp
        first | exact ⟨Below.refl _ _, rfl⟩ | rfl
      apply relm_is (by decide) (by decide)
      · intro u wx hb hd
        have hz := hb.size
        (try simp only [World.size_alloc, World.size_setCell] at hz)
        have hz0 : (w2.heap.size + 1) < wx.heap.size := by omega
        have hz1 : w.heap.size + 1 < wx.heap.size := by omega
        have hz2 : b1 < wx.heap.size := by omega
        obtain ⟨hc, hf⟩ := bcell hb
        have HBX := Lib.hid hb
        clear hb hz
        simp [depsS, Region.binds, updS, Stay.is, Stay.any] at hd
        go_simp
        first | exact ⟨Below.refl _ _, rfl⟩ | rfl
      apply relm_is (by decide) (by decide)
      · intro u wx hb hd
        have hz := hb.size
        (try simp only [World.size_alloc, World.size_setCell] at hz)
        have hz0 : (w2.heap.size + 1) < wx.heap.size := by omega
        have hz1 : w.heap.size + 1 < wx.heap.size := by omega
        have hz2 : b1 < wx.heap.size := by omega
        obtain ⟨hc, hf⟩ := bcell hb
        have HBX := Lib.hid hb
        clear hb hz
        simp [depsS, Region.binds, updS, Stay.is, Stay.any] at hd
        go_simp
        first | exact ⟨Below.refl _ _, rfl⟩ | rfl
      apply relm_is (by decide) (by decide)
      · intro u wx hb hd
        have hz := hb.size
        (try simp only [World.size_alloc, World.size_setCell] at hz)
        have hz0 : (w2.heap.size + 1) < wx.heap.size := by omega
        have hz1 : w.heap.size + 1 < wx.heap.size := by omega
        have hz2 : b1 < wx.heap.size := by omega
        obtain ⟨hc, hf⟩ := bcell hb
        have HBX := Lib.hid hb
        clear hb hz
        simp [depsS, Region.binds, updS, Stay.is, Stay.any] at hd
        go_simp
        first | exact ⟨Below.refl _ _, rfl⟩ | rfl
      apply relm_is (by decide) (by decide)
      · intro u wx hb hd
        have hz := hb.size
        (try simp only [World.size_alloc, World.size_setCell] at hz)
        have hz0 : (w2.heap.size + 1) < wx.heap.size := by omega
        have hz1 : w.heap.size + 1 < wx.heap.size := by omega
        have hz2 : b1 < wx.heap.size := by omega
        obtain ⟨hc, hf⟩ := bcell hb
        have HBX := Lib.hid hb
        clear hb hz
        simp [depsS, Region.binds, updS, Stay.is, Stay.any] at hd
        go_simp
        first | exact ⟨Below.refl _ _, rfl⟩ | rfl
      apply relm_is (by decide) (by decide)
      · intro u wx hb hd
        have hz := hb.size
        (try simp only [World.size_alloc, World.size_setCell] at hz)
        have hz0 : (w2.heap.size + 1) < wx.heap.size := by omega
        have hz1 : w.heap.size + 1 < wx.heap.size := by omega
        have hz2 : b1 < wx.heap.size := by omega
        obtain ⟨hc, hf⟩ := bcell hb
        have HBX := Lib.hid hb
        clear hb hz
        simp [depsS, Region.binds, updS, Stay.is, Stay.any] at hd
        go_simp
        first | exact ⟨Below.refl _ _, rfl⟩ | rfl
      apply relm_is (by decide) (by decide)
      · intro u wx hb hd
        have hz := hb.size
        (try simp only [World.size_alloc, World.size_setCell] at hz)
        have hz0 : (w2.heap.size + 1) < wx.heap.size := by omega
        have hz1 : w.heap.size + 1 < wx.heap.size := by omega
        have hz2 : b1 < wx.heap.size := by omega
        obtain ⟨hc, hf⟩ := bcell hb
        have HBX := Lib.hid hb
        clear hb hz
        simp [depsS, Region.binds, updS, Stay.is, Stay.any] at hd
        go_simp
        first | exact ⟨Below.refl _ _, rfl⟩ | rfl
      apply relm_is (by decide) (by decide)
      · intro u wx hb hd
        have hz := hb.size
        (try simp only [World.size_alloc, World.size_setCell] at hz)
        have hz0 : (w2.heap.size + 1) < wx.heap.size := by omega
        have hz1 : w.heap.size + 1 < wx.heap.size := by omega
        have hz2 : b1 < wx.heap.size := by omega
        obtain ⟨hc, hf⟩ := bcell hb
        have HBX := Lib.hid hb
        clear hb hz
        simp [depsS, Region.binds, updS, Stay.is, Stay.any] at hd
        go_simp
        first | exact ⟨Below.refl _ _, rfl⟩ | rfl
      apply relm_is (by decide) (by decide)
      · intro u wx hb hd
        have hz := hb.size
        (try simp only [World.size_alloc, World.size_setCell] at hz)
        have hz0 : (w2.heap.size + 1) < wx.heap.size := by omega
        have hz1 : w.heap.size + 1 < wx.heap.size := by omega
        have hz2 : b1 < wx.heap.size := by omega
        obtain ⟨hc, hf⟩ := bcell hb
        have HBX := Lib.hid hb
        clear hb hz
        simp [depsS, Region.binds, updS, Stay.is, Stay.any] at hd
        go_simp
        first | exact ⟨Below.refl _ _, rfl⟩ | rfl
      refine relm_stay (Stay.built 1 #[.int .i64 X, .int .i64 Y, .int .i64 Z] 56) (by decide) (by decide) ?_ ?_
      · intro u wx hb hd
        have hz := hb.size
        (try simp only [World.size_alloc, World.size_setCell] at hz)
        have hz0 : (w2.heap.size + 1) < wx.heap.size := by omega
        have hz1 : w.heap.size + 1 < wx.heap.size := by omega
        have hz2 : b1 < wx.heap.size := by omega
        obtain ⟨hc, hf⟩ := bcell hb
        have HBX := Lib.hid hb
        clear hb hz
        simp [depsS, Region.binds, updS, Stay.is, Stay.any] at hd
        go_simp
        exact ⟨(Below.refl _ _).alloc (Nat.le_refl _) _, built_new _ _ _ _⟩
      refine relm_append (w5.heap.size) (.tmp 89) (.tmp 115) 23 rfl rfl 56 i0 (.agg #[.int .i64 0, .int .i64 0, .int .i64 0]) 3 24 (nf + j) (1) (flV GF (nf + j)) [.int .i64 X, .int .i64 Y, .int .i64 Z] hu0 hi0 hz00 hz01 hz02 rfl (by decide) (.slice ot (nf + j) ct) (by decide) (HT.out) (by omega) (by unfold maxLen; omega) (by omega) rfl (ints3_one _ _ _) ?_ ?_
      · intro u wx hb hd
        have hz := hb.size
        (try simp only [World.size_alloc, World.size_setCell] at hz)
        have hz0 : (w2.heap.size + 1) < wx.heap.size := by omega
        have hz1 : w.heap.size + 1 < wx.heap.size := by omega
        have hz2 : b1 < wx.heap.size := by omega
        obtain ⟨hc, hf⟩ := bcell hb
        have HBX := Lib.hid hb
        clear hb hz
        simp [depsS, Region.binds, updS, Stay.is, Stay.any] at hd
        obtain ⟨h1, g, hg1, hg2⟩ := hd
        refine ⟨by first | exact h1 | simpa [Act.eval] using h1, some ⟨g, 0, none⟩, 1, by first | exact hg1 | simpa [Act.eval] using hg1, fun h => (by cases h), fun ad had j u hj => ?_⟩
        cases had
        exact built_cells hg2 j u hj
      apply relm_free (by decide) (by decide)
      · intro u wx
        refine ⟨by simp [Region.wanted], ?_⟩
        go_simp
        first | exact ⟨rfl, rfl⟩ | rfl
      intro u w8 hq5 hE
      replace hq5 : (Stay.app _ _ _ _ _ _ _).p (u 28) w8 := hq5
      have e0 : u 0 = _ := hE 0 (by decide) (by decide) (Const.is _)
      have e1 : u 1 = _ := hE 1 (by decide) (by decide) (Const.is _)
      have e2 : u 2 = _ := hE 2 (by decide) (by decide) (Const.is _)
      have e3 : u 3 = _ := hE 3 (by decide) (by decide) (Const.is _)
      have e4 : u 4 = _ := hE 4 (by decide) (by decide) (Const.is _)
      have e5 : u 5 = _ := hE 5 (by decide) (by decide) (Const.is _)
      have e6 : u 6 = _ := hE 6 (by decide) (by decide) (Const.is _)
      have e7 : u 7 = _ := hE 7 (by decide) (by decide) (Const.is _)
      have e8 : u 8 = _ := hE 8 (by decide) (by decide) (Const.is _)
      have e9 : u 9 = _ := hE 9 (by decide) (by decide) (Const.is _)
      have e10 : u 10 = _ := hE 10 (by decide) (by decide) (Const.is _)
      have e11 : u 11 = _ := hE 11 (by decide) (by decide) (Const.is _)
      have e12 : u 12 = _ := hE 12 (by decide) (by decide) (Const.is _)
      have e13 : u 13 = _ := hE 13 (by decide) (by decide) (Const.is _)
      have e14 : u 14 = _ := hE 14 (by decide) (by decide) (Const.is _)
      have e15 : u 15 = _ := hE 15 (by decide) (by decide) (Const.is _)
      have e16 : u 16 = _ := hE 16 (by decide) (by decide) (Const.is _)
      have e17 : u 17 = _ := hE 17 (by decide) (by decide) (Const.is _)
      have e18 : u 18 = _ := hE 18 (by decide) (by decide) (Const.is _)
      have e19 : u 19 = _ := hE 19 (by decide) (by decide) (Const.is _)
      have e20 : u 20 = _ := hE 20 (by decide) (by decide) (Const.is _)
      have e21 : u 21 = _ := hE 21 (by decide) (by decide) (Const.is _)
      have e22 : u 22 = _ := hE 22 (by decide) (by decide) (Const.is _)
      have e23 : u 23 = _ := hE 23 (by decide) (by decide) (Const.is _)
      have e24 : u 24 = _ := hE 24 (by decide) (by decide) (Const.is _)
      have e25 : u 25 = _ := hE 25 (by decide) (by decide) (Const.is _)
      have e26 : u 26 = _ := hE 26 (by decide) (by decide) (Const.is _)
      have e29 : u 29 = _ := hE 29 (by decide) (by decide) (Const.is _)
      obtain ⟨HOw8, hgw8, hsw8, hnw8⟩ := hq5
      (try simp only [World.size_alloc, World.size_setCell] at hsw8 hnw8)
      simp only [List.drop_succ_cons, List.drop_zero, List.take_succ_cons, List.take_zero, fillL, Act.put, List.setIfInBounds_toArray, List.set_cons_zero, List.set_cons_succ, e0, e1, e2, e3, e4, e5, e6, e7, e8, e9, e10, e11, e12, e13, e14, e15, e16, e17, e18, e19, e20, e21, e22, e23, e24, e25, e26, e29]
      clear e0 e1 e2 e3 e4 e5 e6 e7 e8 e9 e10 e11 e12 e13 e14 e15 e16 e17 e18 e19 e20 e21 e22 e23 e24 e25 e26 e29 hE
      generalize u 28 = vw8 at *
      replace HOw8 := Lib.hid HOw8
      have HM8 : Hid (w8.heap[(w2.heap.size + 1)]? = some (.cells #[.slice o2 (np + mp) k2, .slice ot (nf + j) ct] 25)) := (hgw8.block _ (by omega) (HNB.out _ (by omega))).trans HM7.out
      have HK8 : Hid (∀ b, b < w5.heap.size → b ≠ (w2.heap.size + 1) → w8.heap[b]? = w6.heap[b]?) := fun b hb hne => (hgw8.block b (by omega) (HNB.out b hb)).trans (HKK.out b hb hne)
      have hB8 : Below w.heap.size w w8 := Below.grown hBw7 hgw8 (by have := hBw7.size; omega) (fun g hg => by
        rcases Nat.lt_or_ge g w5.heap.size with h' | h'
        · exact absurd hg.symm (HNB.out _ h')
        · omega)
      rw [show nf + j + 1 = nf + (j + 1) by omega, HFL.out] at HOw8
      obtain ⟨o5, c5, rfl, -, -, -⟩ := (owns_R (F := GF) HOw8.out).form
      obtain ⟨n0, n1, nz, ns8⟩ := cells_at2 HM8.out
      have HN8 : Hid (∀ b, b < w5.heap.size → some b ≠ (Value.slice o5 (nf + (j + 1)) c5).ownBlock) := fun b hb => owns_low HOw8.out hb
      have HBB := Lib.hid hB8
      clear hB8 hgw8 hnw8 m0 m1 mz c0 c1 c2 wX wY wZ
      go_wp2
      go_roundw
      case rel =>
        refine ⟨j + 1, o5, c5, by omega, by go_num, ?_, owns_kept HOw8.out (by simp) (fun g hg => heapS_other _ _ _ _ _ (fun e => HN8.out g (by omega) hg.symm)), fun b hb hne => (heapS_other _ _ _ _ _ hne).trans (HK8.out b hb hne), by simp <;> omega, by have h := HBB.out; go_grown⟩
        show _ = _
        rw [heapS_same, HM8.out]
        rfl
      case measure => simp [intOf]; omega
    · obtain rfl : j = mf := by omega
      have zaw7 : w.heap.size < w7.heap.size := by omega
      have zbw7 : w.heap.size + 1 < w7.heap.size := by omega
      have zvw7 : w1.heap.size < w7.heap.size := by omega
      have zuw7 : w2.heap.size < w7.heap.size := by omega
      have zmw7 : (w2.heap.size + 1) < w7.heap.size := by omega
      have a0w7 : w7.cell? ⟨w.heap.size, 0, none⟩ = some (.slice op np cp) := (cellK 0 (HKK.out _ (by omega) (by omega))).trans a0w6
      have a1w7 : w7.cell? ⟨w.heap.size, 1, none⟩ = some (.slice of' nf cf) := (cellK 1 (HKK.out _ (by omega) (by omega))).trans a1w6
      have b0w7 : w7.cell? ⟨w.heap.size + 1, 0, none⟩ = some (.slice oq mp cq) := (cellK 0 (HKK.out _ (by omega) (by omega))).trans b0w6
      have b1w7 : w7.cell? ⟨w.heap.size + 1, 1, none⟩ = some (.slice og j cg) := (cellK 1 (HKK.out _ (by omega) (by omega))).trans b1w6
      have v0w7 : w7.cell? ⟨w1.heap.size, 0, none⟩ = some (.bool sv) := (cellK 0 (HKK.out _ (by omega) (by omega))).trans v0w6
      have v1w7 : w7.cell? ⟨w1.heap.size, 1, none⟩ = some (.int .u64 (V 0)) := (cellK 1 (HKK.out _ (by omega) (by omega))).trans v1w6
      have v2w7 : w7.cell? ⟨w1.heap.size, 2, none⟩ = some (.int .u64 (V 1)) := (cellK 2 (HKK.out _ (by omega) (by omega))).trans v2w6
      have v3w7 : w7.cell? ⟨w1.heap.size, 3, none⟩ = some (.int .u64 (V 2)) := (cellK 3 (HKK.out _ (by omega) (by omega))).trans v3w6
      have v4w7 : w7.cell? ⟨w1.heap.size, 4, none⟩ = some (.int .u64 (V 3)) := (cellK 4 (HKK.out _ (by omega) (by omega))).trans v4w6
      have HW7 := (HKK.out w2.heap.size (by omega) (by omega)).trans HW6.out
      have u0w7 : w7.cell? ⟨w2.heap.size, 0, none⟩ = some (.bool sw) := cell_of_row w7 w2.heap.size 0 _ 33 (0, 0) HW7
      have u1w7 : w7.cell? ⟨w2.heap.size, 1, none⟩ = some (.int .u64 (U 0)) := cell_of_row w7 w2.heap.size 1 _ 33 (0, 0) HW7
      have u2w7 : w7.cell? ⟨w2.heap.size, 2, none⟩ = some (.int .u64 (U 1)) := cell_of_row w7 w2.heap.size 2 _ 33 (0, 0) HW7
      have u3w7 : w7.cell? ⟨w2.heap.size, 3, none⟩ = some (.int .u64 (U 2)) := cell_of_row w7 w2.heap.size 3 _ 33 (0, 0) HW7
      have u4w7 : w7.cell? ⟨w2.heap.size, 4, none⟩ = some (.int .u64 (U 3)) := cell_of_row w7 w2.heap.size 4 _ 33 (0, 0) HW7
      clear HW7
      have m0w7 := m0
      have m1w7 := m1
      have HPr : RowAt w7 (.slice o2 (np + mp) k2) (np + mp) PP := HP6.out.kept hz57 (fun g hg => HKK.out g (HPL.out g hg).1 (HPL.out g hg).2)
      have HMJ : Hid (MAt w7 (.agg #[.slice o2 (np + mp) k2, .slice ot (nf + j) ct]) (np + mp) PP (nf + j) GF) := ⟨_, _, rfl, HPr, owns_R HT.out⟩
      have hJ : Good (np + mp) PP (nf + j) GF := by
        rw [← HPP.out, ← HGF.out]
        exact good_join HGA.out HGB.out (by omega) (by omega)
      have hck := check_iff.2 hJ
      have hvA : vol6 np P nf F = volF P F nf := if_pos HE1.out
      have hvB : vol6 mp Q j G = volF Q G j := if_pos HE2.out
      have hvJ : vol6 (np + mp) PP (nf + j) GF = vol6 np P nf F + vol6 mp Q j G * 1 := by
        rw [Int.mul_one, hvA, hvB]
        unfold vol6
        rw [if_pos hck, ← HPP.out, ← HGF.out]
        exact vol_join HGA.out HGB.out
      have hmJ : ∀ c, mom24 (np + mp) PP (nf + j) GF c = mom24 np P nf F c + mom24 mp Q j G c * 1 := fun c => by
        rw [Int.mul_one]
        unfold mom24
        rw [if_pos hck, if_pos HE1.out, if_pos HE2.out, ← HPP.out, ← HGF.out]
        exact mom_join c HGA.out HGB.out
      obtain ⟨sx, hsx⟩ : ∃ b, decide (vol6 (np + mp) PP (nf + j) GF < 0) = b := ⟨_, rfl⟩
      obtain ⟨W, hW⟩ : ∃ X, wdF (vol6 (np + mp) PP (nf + j) GF) = X := ⟨_, rfl⟩
      obtain ⟨s0, hs0⟩ : ∃ b, decide (mom24 np P nf F 0 < 0) = b := ⟨_, rfl⟩
      obtain ⟨X0, hX0⟩ : ∃ X, wdF (mom24 np P nf F 0) = X := ⟨_, rfl⟩
      obtain ⟨s1, hs1⟩ : ∃ b, decide (mom24 np P nf F 1 < 0) = b := ⟨_, rfl⟩
      obtain ⟨X1, hX1⟩ : ∃ X, wdF (mom24 np P nf F 1) = X := ⟨_, rfl⟩
      obtain ⟨s2, hs2⟩ : ∃ b, decide (mom24 np P nf F 2 < 0) = b := ⟨_, rfl⟩
      obtain ⟨X2, hX2⟩ : ∃ X, wdF (mom24 np P nf F 2) = X := ⟨_, rfl⟩
      obtain ⟨t0, ht0⟩ : ∃ b, decide (mom24 mp Q j G 0 < 0) = b := ⟨_, rfl⟩
      obtain ⟨Y0, hY0⟩ : ∃ X, wdF (mom24 mp Q j G 0) = X := ⟨_, rfl⟩
      obtain ⟨t1, ht1⟩ : ∃ b, decide (mom24 mp Q j G 1 < 0) = b := ⟨_, rfl⟩
      obtain ⟨Y1, hY1⟩ : ∃ X, wdF (mom24 mp Q j G 1) = X := ⟨_, rfl⟩
      obtain ⟨t2, ht2⟩ : ∃ b, decide (mom24 mp Q j G 2 < 0) = b := ⟨_, rfl⟩
      obtain ⟨Y2, hY2⟩ : ∃ X, wdF (mom24 mp Q j G 2) = X := ⟨_, rfl⟩
      obtain ⟨z0, hz0⟩ : ∃ b, decide (mom24 (np + mp) PP (nf + j) GF 0 < 0) = b := ⟨_, rfl⟩
      obtain ⟨Z0, hZ0⟩ : ∃ X, wdF (mom24 (np + mp) PP (nf + j) GF 0) = X := ⟨_, rfl⟩
      obtain ⟨z1, hz1⟩ : ∃ b, decide (mom24 (np + mp) PP (nf + j) GF 1 < 0) = b := ⟨_, rfl⟩
      obtain ⟨Z1, hZ1⟩ : ∃ X, wdF (mom24 (np + mp) PP (nf + j) GF 1) = X := ⟨_, rfl⟩
      obtain ⟨z2, hz2⟩ : ∃ b, decide (mom24 (np + mp) PP (nf + j) GF 2 < 0) = b := ⟨_, rfl⟩
      obtain ⟨Z2, hZ2⟩ : ∃ X, wdF (mom24 (np + mp) PP (nf + j) GF 2) = X := ⟨_, rfl⟩
      have hmo0 : (.agg (lC (mom24 np P nf F) 3) : Value) = .agg #[.bool s0, .int .u64 (X0 0), .int .u64 (X0 1), .int .u64 (X0 2), .int .u64 (X0 3), .bool s1, .int .u64 (X1 0), .int .u64 (X1 1), .int .u64 (X1 2), .int .u64 (X1 3), .bool s2, .int .u64 (X2 0), .int .u64 (X2 1), .int .u64 (X2 2), .int .u64 (X2 3)] := by rw [← hs0, ← hX0, ← hs1, ← hX1, ← hs2, ← hX2]; rfl
      have hmo1 : (.agg (lC (mom24 mp Q j G) 3) : Value) = .agg #[.bool t0, .int .u64 (Y0 0), .int .u64 (Y0 1), .int .u64 (Y0 2), .int .u64 (Y0 3), .bool t1, .int .u64 (Y1 0), .int .u64 (Y1 1), .int .u64 (Y1 2), .int .u64 (Y1 3), .bool t2, .int .u64 (Y2 0), .int .u64 (Y2 1), .int .u64 (Y2 2), .int .u64 (Y2 3)] := by rw [← ht0, ← hY0, ← ht1, ← hY1, ← ht2, ← hY2]; rfl
      have hmo2 : (.agg (lC (mom24 (np + mp) PP (nf + j) GF) 3) : Value) = .agg #[.bool z0, .int .u64 (Z0 0), .int .u64 (Z0 1), .int .u64 (Z0 2), .int .u64 (Z0 3), .bool z1, .int .u64 (Z1 0), .int .u64 (Z1 1), .int .u64 (Z1 2), .int .u64 (Z1 3), .bool z2, .int .u64 (Z2 0), .int .u64 (Z2 1), .int .u64 (Z2 2), .int .u64 (Z2 3)] := by rw [← hz0, ← hZ0, ← hz1, ← hZ1, ← hz2, ← hZ2]; rfl
      have hva := vol_bd HGA.out
      have hvb := vol_bd HGB.out
      have HVJ : Hid (∀ X, MAt X (.agg #[.slice o2 (np + mp) k2, .slice ot (nf + j) ct]) (np + mp) PP (nf + j) GF → Calls Try.prog 15 #[.agg #[.slice o2 (np + mp) k2, .slice ot (nf + j) ct]] X fun e w' => e = .returned (.tuple #[.agg #[.bool sx, .int .u64 (W 0), .int .u64 (W 1), .int .u64 (W 2), .int .u64 (W 3)], .int .i64 0]) ∧ Below X.heap.size X w') := fun X h => by
        have h := Volume6_any _ _ _ PP GF X h
        rw [hsx, hW, hck] at h
        exact h
      have HSV : Hid (∀ X, Calls Try.prog 24 #[.agg #[.bool sv, .int .u64 (V 0), .int .u64 (V 1), .int .u64 (V 2), .int .u64 (V 3)], .agg #[.bool sw, .int .u64 (U 0), .int .u64 (U 1), .int .u64 (U 2), .int .u64 (U 3)], .int .i64 1] X fun e w' => e = .returned (.agg #[.bool sx, .int .u64 (W 0), .int .u64 (W 1), .int .u64 (W 2), .int .u64 (W 3)]) ∧ Below X.heap.size X w') := fun X => by
        have h := scaled_any (vol6 np P nf F) (vol6 mp Q j G) 1 X (by rw [hvA]; omega) (by rw [hvB]; omega) (by decide) (by rw [hvB]; omega) (by rw [hvA, hvB]; omega)
        rw [← hvJ, HS1.out.1, HS1.out.2, HS2.out.1, HS2.out.2, hsx, hW] at h
        exact h
      have hma0 : mom24 np P nf F 0 = momF 0 P F nf := if_pos HE1.out
      have hmb0 : mom24 mp Q j G 0 = momF 0 Q G j := if_pos HE2.out
      have hba0 := mom_bd (F := F) 0 HGA.out.ins (n := nf) HGA.out.ix hn2
      have hbb0 := mom_bd (F := G) 0 HGB.out.ins (n := j) HGB.out.ix hn4
      have HSM0 : Hid (∀ X, Calls Try.prog 24 #[.agg #[.bool s0, .int .u64 (X0 0), .int .u64 (X0 1), .int .u64 (X0 2), .int .u64 (X0 3)], .agg #[.bool t0, .int .u64 (Y0 0), .int .u64 (Y0 1), .int .u64 (Y0 2), .int .u64 (Y0 3)], .int .i64 1] X fun e w' => e = .returned (.agg #[.bool z0, .int .u64 (Z0 0), .int .u64 (Z0 1), .int .u64 (Z0 2), .int .u64 (Z0 3)]) ∧ Below X.heap.size X w') := fun X => by
        have h := scaled_any (mom24 np P nf F 0) (mom24 mp Q j G 0) 1 X (by rw [hma0]; omega) (by rw [hmb0]; omega) (by decide) (by rw [hmb0]; omega) (by rw [hma0, hmb0]; omega)
        rw [← hmJ 0, hs0, hX0, ht0, hY0, hz0, hZ0] at h
        exact h
      have hma1 : mom24 np P nf F 1 = momF 1 P F nf := if_pos HE1.out
      have hmb1 : mom24 mp Q j G 1 = momF 1 Q G j := if_pos HE2.out
      have hba1 := mom_bd (F := F) 1 HGA.out.ins (n := nf) HGA.out.ix hn2
      have hbb1 := mom_bd (F := G) 1 HGB.out.ins (n := j) HGB.out.ix hn4
      have HSM1 : Hid (∀ X, Calls Try.prog 24 #[.agg #[.bool s1, .int .u64 (X1 0), .int .u64 (X1 1), .int .u64 (X1 2), .int .u64 (X1 3)], .agg #[.bool t1, .int .u64 (Y1 0), .int .u64 (Y1 1), .int .u64 (Y1 2), .int .u64 (Y1 3)], .int .i64 1] X fun e w' => e = .returned (.agg #[.bool z1, .int .u64 (Z1 0), .int .u64 (Z1 1), .int .u64 (Z1 2), .int .u64 (Z1 3)]) ∧ Below X.heap.size X w') := fun X => by
        have h := scaled_any (mom24 np P nf F 1) (mom24 mp Q j G 1) 1 X (by rw [hma1]; omega) (by rw [hmb1]; omega) (by decide) (by rw [hmb1]; omega) (by rw [hma1, hmb1]; omega)
        rw [← hmJ 1, hs1, hX1, ht1, hY1, hz1, hZ1] at h
        exact h
      have hma2 : mom24 np P nf F 2 = momF 2 P F nf := if_pos HE1.out
      have hmb2 : mom24 mp Q j G 2 = momF 2 Q G j := if_pos HE2.out
      have hba2 := mom_bd (F := F) 2 HGA.out.ins (n := nf) HGA.out.ix hn2
      have hbb2 := mom_bd (F := G) 2 HGB.out.ins (n := j) HGB.out.ix hn4
      have HSM2 : Hid (∀ X, Calls Try.prog 24 #[.agg #[.bool s2, .int .u64 (X2 0), .int .u64 (X2 1), .int .u64 (X2 2), .int .u64 (X2 3)], .agg #[.bool t2, .int .u64 (Y2 0), .int .u64 (Y2 1), .int .u64 (Y2 2), .int .u64 (Y2 3)], .int .i64 1] X fun e w' => e = .returned (.agg #[.bool z2, .int .u64 (Z2 0), .int .u64 (Z2 1), .int .u64 (Z2 2), .int .u64 (Z2 3)]) ∧ Below X.heap.size X w') := fun X => by
        have h := scaled_any (mom24 np P nf F 2) (mom24 mp Q j G 2) 1 X (by rw [hma2]; omega) (by rw [hmb2]; omega) (by decide) (by rw [hmb2]; omega) (by rw [hma2, hmb2]; omega)
        rw [← hmJ 2, hs2, hX2, ht2, hY2, hz2, hZ2] at h
        exact h
      have HM1 : Hid (∀ X, MAt X (.agg #[.slice op np cp, .slice of' nf cf]) np P nf F → Calls Try.prog 17 #[.agg #[.slice op np cp, .slice of' nf cf]] X fun e w' => e = .returned (.tuple #[.agg #[.bool s0, .int .u64 (X0 0), .int .u64 (X0 1), .int .u64 (X0 2), .int .u64 (X0 3), .bool s1, .int .u64 (X1 0), .int .u64 (X1 1), .int .u64 (X1 2), .int .u64 (X1 3), .bool s2, .int .u64 (X2 0), .int .u64 (X2 1), .int .u64 (X2 2), .int .u64 (X2 3)], .int .i64 0]) ∧ Below X.heap.size X w') := fun X h => by
        have h := Moment24_any _ _ _ P F X h
        rw [hmo0, HE1.out] at h
        exact h
      have HM2 : Hid (∀ X, MAt X (.agg #[.slice oq mp cq, .slice og j cg]) mp Q j G → Calls Try.prog 17 #[.agg #[.slice oq mp cq, .slice og j cg]] X fun e w' => e = .returned (.tuple #[.agg #[.bool t0, .int .u64 (Y0 0), .int .u64 (Y0 1), .int .u64 (Y0 2), .int .u64 (Y0 3), .bool t1, .int .u64 (Y1 0), .int .u64 (Y1 1), .int .u64 (Y1 2), .int .u64 (Y1 3), .bool t2, .int .u64 (Y2 0), .int .u64 (Y2 1), .int .u64 (Y2 2), .int .u64 (Y2 3)], .int .i64 0]) ∧ Below X.heap.size X w') := fun X h => by
        have h := Moment24_any _ _ _ Q G X h
        rw [hmo1, HE2.out] at h
        exact h
      have HM3 : Hid (∀ X, MAt X (.agg #[.slice o2 (np + mp) k2, .slice ot (nf + j) ct]) (np + mp) PP (nf + j) GF → Calls Try.prog 17 #[.agg #[.slice o2 (np + mp) k2, .slice ot (nf + j) ct]] X fun e w' => e = .returned (.tuple #[.agg #[.bool z0, .int .u64 (Z0 0), .int .u64 (Z0 1), .int .u64 (Z0 2), .int .u64 (Z0 3), .bool z1, .int .u64 (Z1 0), .int .u64 (Z1 1), .int .u64 (Z1 2), .int .u64 (Z1 3), .bool z2, .int .u64 (Z2 0), .int .u64 (Z2 1), .int .u64 (Z2 2), .int .u64 (Z2 3)], .int .i64 0]) ∧ Below X.heap.size X w') := fun X h => by
        have h := Moment24_any _ _ _ PP GF X h
        rw [hmo2, hck] at h
        exact h
      have q1 := neq_wide sx (W 0) (W 1) (W 2) (W 3)
      have q2 := eql_wide3 (Z0 0) (Z0 1) (Z0 2) (Z0 3) (Z1 0) (Z1 1) (Z1 2) (Z1 3) (Z2 0) (Z2 1) (Z2 2) (Z2 3) z0 z1 z2
      clear HPr hJ hck hvA hvB hvJ hmJ hsx hW hmo0 hmo1 hmo2 hva hvb m0 m1 mz hs0 hX0 ht0 hY0 hz0 hZ0 hma0 hmb0 hba0 hbb0 hs1 hX1 ht1 hY1 hz1 hZ1 hma1 hmb1 hba1 hbb1 hs2 hX2 ht2 hY2 hz2 hZ2 hma2 hmb2 hba2 hbb2
      go_wp2_with fail
      (go_at_call 15; refine (HVJ.out _ (HMJ.out.below (by first | assumption | go_grown))).mono ?_; rintro e_ w8 ⟨rfl, hb⟩)
      have hsw8 := hb.size
      (try simp only [World.size_alloc, World.size_setCell] at hsw8)
      have zzw8 : w.heap.size < w8.heap.size := by omega
      have hPw8 : Below w7.heap.size w7 w8 := below_step (w := w7) (by first | exact Below.refl _ _ | go_grown) hb
      have zaw8 : w.heap.size < w8.heap.size := by omega
      have a0w8 : w8.cell? ⟨w.heap.size, 0, none⟩ = some (.slice op np cp) := (hPw8.cell (p := ⟨_, _, none⟩) zaw7).trans a0w7
      have a1w8 : w8.cell? ⟨w.heap.size, 1, none⟩ = some (.slice of' nf cf) := (hPw8.cell (p := ⟨_, _, none⟩) zaw7).trans a1w7
      have zbw8 : w.heap.size + 1 < w8.heap.size := by omega
      have b0w8 : w8.cell? ⟨w.heap.size + 1, 0, none⟩ = some (.slice oq mp cq) := (hPw8.cell (p := ⟨_, _, none⟩) zbw7).trans b0w7
      have b1w8 : w8.cell? ⟨w.heap.size + 1, 1, none⟩ = some (.slice og j cg) := (hPw8.cell (p := ⟨_, _, none⟩) zbw7).trans b1w7
      have zvw8 : w1.heap.size < w8.heap.size := by omega
      have v0w8 : w8.cell? ⟨w1.heap.size, 0, none⟩ = some (.bool sv) := (hPw8.cell (p := ⟨_, _, none⟩) zvw7).trans v0w7
      have v1w8 : w8.cell? ⟨w1.heap.size, 1, none⟩ = some (.int .u64 (V 0)) := (hPw8.cell (p := ⟨_, _, none⟩) zvw7).trans v1w7
      have v2w8 : w8.cell? ⟨w1.heap.size, 2, none⟩ = some (.int .u64 (V 1)) := (hPw8.cell (p := ⟨_, _, none⟩) zvw7).trans v2w7
      have v3w8 : w8.cell? ⟨w1.heap.size, 3, none⟩ = some (.int .u64 (V 2)) := (hPw8.cell (p := ⟨_, _, none⟩) zvw7).trans v3w7
      have v4w8 : w8.cell? ⟨w1.heap.size, 4, none⟩ = some (.int .u64 (V 3)) := (hPw8.cell (p := ⟨_, _, none⟩) zvw7).trans v4w7
      have zuw8 : w2.heap.size < w8.heap.size := by omega
      have u0w8 : w8.cell? ⟨w2.heap.size, 0, none⟩ = some (.bool sw) := (hPw8.cell (p := ⟨_, _, none⟩) zuw7).trans u0w7
      have u1w8 : w8.cell? ⟨w2.heap.size, 1, none⟩ = some (.int .u64 (U 0)) := (hPw8.cell (p := ⟨_, _, none⟩) zuw7).trans u1w7
      have u2w8 : w8.cell? ⟨w2.heap.size, 2, none⟩ = some (.int .u64 (U 1)) := (hPw8.cell (p := ⟨_, _, none⟩) zuw7).trans u2w7
      have u3w8 : w8.cell? ⟨w2.heap.size, 3, none⟩ = some (.int .u64 (U 2)) := (hPw8.cell (p := ⟨_, _, none⟩) zuw7).trans u3w7
      have u4w8 : w8.cell? ⟨w2.heap.size, 4, none⟩ = some (.int .u64 (U 3)) := (hPw8.cell (p := ⟨_, _, none⟩) zuw7).trans u4w7
      have zmw8 : (w2.heap.size + 1) < w8.heap.size := by omega
      have m0w8 : w8.cell? ⟨(w2.heap.size + 1), 0, none⟩ = some (.slice o2 (np + mp) k2) := (hPw8.cell (p := ⟨_, _, none⟩) zmw7).trans m0w7
      have m1w8 : w8.cell? ⟨(w2.heap.size + 1), 1, none⟩ = some (.slice ot (nf + j) ct) := (hPw8.cell (p := ⟨_, _, none⟩) zmw7).trans m1w7
      replace HMJ := Lib.hid (HMJ.out.below hPw8)
      have hBw8 : Below w.heap.size w w8 := below_step (w := w) (by first | assumption | go_grown) hb
      clear hb hsw8 hPw8
      clear zaw7 zbw7 zvw7 zuw7 zmw7 a0w7 a1w7 b0w7 b1w7 v0w7 v1w7 v2w7 v3w7 v4w7 u0w7 u1w7 u2w7 u3w7 u4w7 m0w7 m1w7
      go_wp2_with fail
      (go_at_call 17; refine (HM1.out _ (HMA.out.below (by first | assumption | go_grown))).mono ?_; rintro e_ w9 ⟨rfl, hb⟩)
      have hsw9 := hb.size
      (try simp only [World.size_alloc, World.size_setCell] at hsw9)
      have zzw9 : w.heap.size < w9.heap.size := by omega
      have hPw9 : Below w8.heap.size w8 w9 := below_step (w := w8) (by first | exact Below.refl _ _ | go_grown) hb
      have zaw9 : w.heap.size < w9.heap.size := by omega
      have a0w9 : w9.cell? ⟨w.heap.size, 0, none⟩ = some (.slice op np cp) := (hPw9.cell (p := ⟨_, _, none⟩) zaw8).trans a0w8
      have a1w9 : w9.cell? ⟨w.heap.size, 1, none⟩ = some (.slice of' nf cf) := (hPw9.cell (p := ⟨_, _, none⟩) zaw8).trans a1w8
      have zbw9 : w.heap.size + 1 < w9.heap.size := by omega
      have b0w9 : w9.cell? ⟨w.heap.size + 1, 0, none⟩ = some (.slice oq mp cq) := (hPw9.cell (p := ⟨_, _, none⟩) zbw8).trans b0w8
      have b1w9 : w9.cell? ⟨w.heap.size + 1, 1, none⟩ = some (.slice og j cg) := (hPw9.cell (p := ⟨_, _, none⟩) zbw8).trans b1w8
      have zvw9 : w1.heap.size < w9.heap.size := by omega
      have v0w9 : w9.cell? ⟨w1.heap.size, 0, none⟩ = some (.bool sv) := (hPw9.cell (p := ⟨_, _, none⟩) zvw8).trans v0w8
      have v1w9 : w9.cell? ⟨w1.heap.size, 1, none⟩ = some (.int .u64 (V 0)) := (hPw9.cell (p := ⟨_, _, none⟩) zvw8).trans v1w8
      have v2w9 : w9.cell? ⟨w1.heap.size, 2, none⟩ = some (.int .u64 (V 1)) := (hPw9.cell (p := ⟨_, _, none⟩) zvw8).trans v2w8
      have v3w9 : w9.cell? ⟨w1.heap.size, 3, none⟩ = some (.int .u64 (V 2)) := (hPw9.cell (p := ⟨_, _, none⟩) zvw8).trans v3w8
      have v4w9 : w9.cell? ⟨w1.heap.size, 4, none⟩ = some (.int .u64 (V 3)) := (hPw9.cell (p := ⟨_, _, none⟩) zvw8).trans v4w8
      have zuw9 : w2.heap.size < w9.heap.size := by omega
      have u0w9 : w9.cell? ⟨w2.heap.size, 0, none⟩ = some (.bool sw) := (hPw9.cell (p := ⟨_, _, none⟩) zuw8).trans u0w8
      have u1w9 : w9.cell? ⟨w2.heap.size, 1, none⟩ = some (.int .u64 (U 0)) := (hPw9.cell (p := ⟨_, _, none⟩) zuw8).trans u1w8
      have u2w9 : w9.cell? ⟨w2.heap.size, 2, none⟩ = some (.int .u64 (U 1)) := (hPw9.cell (p := ⟨_, _, none⟩) zuw8).trans u2w8
      have u3w9 : w9.cell? ⟨w2.heap.size, 3, none⟩ = some (.int .u64 (U 2)) := (hPw9.cell (p := ⟨_, _, none⟩) zuw8).trans u3w8
      have u4w9 : w9.cell? ⟨w2.heap.size, 4, none⟩ = some (.int .u64 (U 3)) := (hPw9.cell (p := ⟨_, _, none⟩) zuw8).trans u4w8
      have zmw9 : (w2.heap.size + 1) < w9.heap.size := by omega
      have m0w9 : w9.cell? ⟨(w2.heap.size + 1), 0, none⟩ = some (.slice o2 (np + mp) k2) := (hPw9.cell (p := ⟨_, _, none⟩) zmw8).trans m0w8
      have m1w9 : w9.cell? ⟨(w2.heap.size + 1), 1, none⟩ = some (.slice ot (nf + j) ct) := (hPw9.cell (p := ⟨_, _, none⟩) zmw8).trans m1w8
      have zjw9 : w8.heap.size < w9.heap.size := by omega
      have j0w9 : w9.cell? ⟨w8.heap.size, 0, none⟩ = some (.bool sx) := (hb.cell (p := ⟨_, _, none⟩) (by simp <;> omega)).trans (by simp [go_sem])
      have j1w9 : w9.cell? ⟨w8.heap.size, 1, none⟩ = some (.int .u64 (W 0)) := (hb.cell (p := ⟨_, _, none⟩) (by simp <;> omega)).trans (by simp [go_sem])
      have j2w9 : w9.cell? ⟨w8.heap.size, 2, none⟩ = some (.int .u64 (W 1)) := (hb.cell (p := ⟨_, _, none⟩) (by simp <;> omega)).trans (by simp [go_sem])
      have j3w9 : w9.cell? ⟨w8.heap.size, 3, none⟩ = some (.int .u64 (W 2)) := (hb.cell (p := ⟨_, _, none⟩) (by simp <;> omega)).trans (by simp [go_sem])
      have j4w9 : w9.cell? ⟨w8.heap.size, 4, none⟩ = some (.int .u64 (W 3)) := (hb.cell (p := ⟨_, _, none⟩) (by simp <;> omega)).trans (by simp [go_sem])
      replace HMJ := Lib.hid (HMJ.out.below hPw9)
      have hBw9 : Below w.heap.size w w9 := below_step (w := w) (by first | assumption | go_grown) hb
      clear hb hsw9 hPw9
      clear zaw8 zbw8 zvw8 zuw8 zmw8 a0w8 a1w8 b0w8 b1w8 v0w8 v1w8 v2w8 v3w8 v4w8 u0w8 u1w8 u2w8 u3w8 u4w8 m0w8 m1w8
      go_wp2_with fail
      (go_at_call 17; refine (HM2.out _ (HMB.out.below (by first | assumption | go_grown))).mono ?_; rintro e_ w10 ⟨rfl, hb⟩)
      have hsw10 := hb.size
      (try simp only [World.size_alloc, World.size_setCell] at hsw10)
      have zzw10 : w.heap.size < w10.heap.size := by omega
      have hPw10 : Below w9.heap.size w9 w10 := below_step (w := w9) (by first | exact Below.refl _ _ | go_grown) hb
      have zaw10 : w.heap.size < w10.heap.size := by omega
      have a0w10 : w10.cell? ⟨w.heap.size, 0, none⟩ = some (.slice op np cp) := (hPw10.cell (p := ⟨_, _, none⟩) zaw9).trans a0w9
      have a1w10 : w10.cell? ⟨w.heap.size, 1, none⟩ = some (.slice of' nf cf) := (hPw10.cell (p := ⟨_, _, none⟩) zaw9).trans a1w9
      have zbw10 : w.heap.size + 1 < w10.heap.size := by omega
      have b0w10 : w10.cell? ⟨w.heap.size + 1, 0, none⟩ = some (.slice oq mp cq) := (hPw10.cell (p := ⟨_, _, none⟩) zbw9).trans b0w9
      have b1w10 : w10.cell? ⟨w.heap.size + 1, 1, none⟩ = some (.slice og j cg) := (hPw10.cell (p := ⟨_, _, none⟩) zbw9).trans b1w9
      have zvw10 : w1.heap.size < w10.heap.size := by omega
      have v0w10 : w10.cell? ⟨w1.heap.size, 0, none⟩ = some (.bool sv) := (hPw10.cell (p := ⟨_, _, none⟩) zvw9).trans v0w9
      have v1w10 : w10.cell? ⟨w1.heap.size, 1, none⟩ = some (.int .u64 (V 0)) := (hPw10.cell (p := ⟨_, _, none⟩) zvw9).trans v1w9
      have v2w10 : w10.cell? ⟨w1.heap.size, 2, none⟩ = some (.int .u64 (V 1)) := (hPw10.cell (p := ⟨_, _, none⟩) zvw9).trans v2w9
      have v3w10 : w10.cell? ⟨w1.heap.size, 3, none⟩ = some (.int .u64 (V 2)) := (hPw10.cell (p := ⟨_, _, none⟩) zvw9).trans v3w9
      have v4w10 : w10.cell? ⟨w1.heap.size, 4, none⟩ = some (.int .u64 (V 3)) := (hPw10.cell (p := ⟨_, _, none⟩) zvw9).trans v4w9
      have zuw10 : w2.heap.size < w10.heap.size := by omega
      have u0w10 : w10.cell? ⟨w2.heap.size, 0, none⟩ = some (.bool sw) := (hPw10.cell (p := ⟨_, _, none⟩) zuw9).trans u0w9
      have u1w10 : w10.cell? ⟨w2.heap.size, 1, none⟩ = some (.int .u64 (U 0)) := (hPw10.cell (p := ⟨_, _, none⟩) zuw9).trans u1w9
      have u2w10 : w10.cell? ⟨w2.heap.size, 2, none⟩ = some (.int .u64 (U 1)) := (hPw10.cell (p := ⟨_, _, none⟩) zuw9).trans u2w9
      have u3w10 : w10.cell? ⟨w2.heap.size, 3, none⟩ = some (.int .u64 (U 2)) := (hPw10.cell (p := ⟨_, _, none⟩) zuw9).trans u3w9
      have u4w10 : w10.cell? ⟨w2.heap.size, 4, none⟩ = some (.int .u64 (U 3)) := (hPw10.cell (p := ⟨_, _, none⟩) zuw9).trans u4w9
      have zmw10 : (w2.heap.size + 1) < w10.heap.size := by omega
      have m0w10 : w10.cell? ⟨(w2.heap.size + 1), 0, none⟩ = some (.slice o2 (np + mp) k2) := (hPw10.cell (p := ⟨_, _, none⟩) zmw9).trans m0w9
      have m1w10 : w10.cell? ⟨(w2.heap.size + 1), 1, none⟩ = some (.slice ot (nf + j) ct) := (hPw10.cell (p := ⟨_, _, none⟩) zmw9).trans m1w9
      have zjw10 : w8.heap.size < w10.heap.size := by omega
      have j0w10 : w10.cell? ⟨w8.heap.size, 0, none⟩ = some (.bool sx) := (hPw10.cell (p := ⟨_, _, none⟩) zjw9).trans j0w9
      have j1w10 : w10.cell? ⟨w8.heap.size, 1, none⟩ = some (.int .u64 (W 0)) := (hPw10.cell (p := ⟨_, _, none⟩) zjw9).trans j1w9
      have j2w10 : w10.cell? ⟨w8.heap.size, 2, none⟩ = some (.int .u64 (W 1)) := (hPw10.cell (p := ⟨_, _, none⟩) zjw9).trans j2w9
      have j3w10 : w10.cell? ⟨w8.heap.size, 3, none⟩ = some (.int .u64 (W 2)) := (hPw10.cell (p := ⟨_, _, none⟩) zjw9).trans j3w9
      have j4w10 : w10.cell? ⟨w8.heap.size, 4, none⟩ = some (.int .u64 (W 3)) := (hPw10.cell (p := ⟨_, _, none⟩) zjw9).trans j4w9
      have zxw10 : w9.heap.size < w10.heap.size := by omega
      have x0w10 : w10.cell? ⟨w9.heap.size, 0, none⟩ = some (.bool s0) := (hb.cell (p := ⟨_, _, none⟩) (by simp <;> omega)).trans (by simp [go_sem])
      have x1w10 : w10.cell? ⟨w9.heap.size, 1, none⟩ = some (.int .u64 (X0 0)) := (hb.cell (p := ⟨_, _, none⟩) (by simp <;> omega)).trans (by simp [go_sem])
      have x2w10 : w10.cell? ⟨w9.heap.size, 2, none⟩ = some (.int .u64 (X0 1)) := (hb.cell (p := ⟨_, _, none⟩) (by simp <;> omega)).trans (by simp [go_sem])
      have x3w10 : w10.cell? ⟨w9.heap.size, 3, none⟩ = some (.int .u64 (X0 2)) := (hb.cell (p := ⟨_, _, none⟩) (by simp <;> omega)).trans (by simp [go_sem])
      have x4w10 : w10.cell? ⟨w9.heap.size, 4, none⟩ = some (.int .u64 (X0 3)) := (hb.cell (p := ⟨_, _, none⟩) (by simp <;> omega)).trans (by simp [go_sem])
      have x5w10 : w10.cell? ⟨w9.heap.size, 5, none⟩ = some (.bool s1) := (hb.cell (p := ⟨_, _, none⟩) (by simp <;> omega)).trans (by simp [go_sem])
      have x6w10 : w10.cell? ⟨w9.heap.size, 6, none⟩ = some (.int .u64 (X1 0)) := (hb.cell (p := ⟨_, _, none⟩) (by simp <;> omega)).trans (by simp [go_sem])
      have x7w10 : w10.cell? ⟨w9.heap.size, 7, none⟩ = some (.int .u64 (X1 1)) := (hb.cell (p := ⟨_, _, none⟩) (by simp <;> omega)).trans (by simp [go_sem])
      have x8w10 : w10.cell? ⟨w9.heap.size, 8, none⟩ = some (.int .u64 (X1 2)) := (hb.cell (p := ⟨_, _, none⟩) (by simp <;> omega)).trans (by simp [go_sem])
      have x9w10 : w10.cell? ⟨w9.heap.size, 9, none⟩ = some (.int .u64 (X1 3)) := (hb.cell (p := ⟨_, _, none⟩) (by simp <;> omega)).trans (by simp [go_sem])
      have x10w10 : w10.cell? ⟨w9.heap.size, 10, none⟩ = some (.bool s2) := (hb.cell (p := ⟨_, _, none⟩) (by simp <;> omega)).trans (by simp [go_sem])
      have x11w10 : w10.cell? ⟨w9.heap.size, 11, none⟩ = some (.int .u64 (X2 0)) := (hb.cell (p := ⟨_, _, none⟩) (by simp <;> omega)).trans (by simp [go_sem])
      have x12w10 : w10.cell? ⟨w9.heap.size, 12, none⟩ = some (.int .u64 (X2 1)) := (hb.cell (p := ⟨_, _, none⟩) (by simp <;> omega)).trans (by simp [go_sem])
      have x13w10 : w10.cell? ⟨w9.heap.size, 13, none⟩ = some (.int .u64 (X2 2)) := (hb.cell (p := ⟨_, _, none⟩) (by simp <;> omega)).trans (by simp [go_sem])
      have x14w10 : w10.cell? ⟨w9.heap.size, 14, none⟩ = some (.int .u64 (X2 3)) := (hb.cell (p := ⟨_, _, none⟩) (by simp <;> omega)).trans (by simp [go_sem])
      replace HMJ := Lib.hid (HMJ.out.below hPw10)
      have hBw10 : Below w.heap.size w w10 := below_step (w := w) (by first | assumption | go_grown) hb
      clear hb hsw10 hPw10
      clear zaw9 zbw9 zvw9 zuw9 zmw9 zjw9 a0w9 a1w9 b0w9 b1w9 v0w9 v1w9 v2w9 v3w9 v4w9 u0w9 u1w9 u2w9 u3w9 u4w9 m0w9 m1w9 j0w9 j1w9 j2w9 j3w9 j4w9
      go_wp2_with fail
      (go_at_call 17; refine (HM3.out _ (HMJ.out.below (by first | assumption | go_grown))).mono ?_; rintro e_ w11 ⟨rfl, hb⟩)
      have hsw11 := hb.size
      (try simp only [World.size_alloc, World.size_setCell] at hsw11)
      have zzw11 : w.heap.size < w11.heap.size := by omega
      have hPw11 : Below w10.heap.size w10 w11 := below_step (w := w10) (by first | exact Below.refl _ _ | go_grown) hb
      have zaw11 : w.heap.size < w11.heap.size := by omega
      have a0w11 : w11.cell? ⟨w.heap.size, 0, none⟩ = some (.slice op np cp) := (hPw11.cell (p := ⟨_, _, none⟩) zaw10).trans a0w10
      have a1w11 : w11.cell? ⟨w.heap.size, 1, none⟩ = some (.slice of' nf cf) := (hPw11.cell (p := ⟨_, _, none⟩) zaw10).trans a1w10
      have zbw11 : w.heap.size + 1 < w11.heap.size := by omega
      have b0w11 : w11.cell? ⟨w.heap.size + 1, 0, none⟩ = some (.slice oq mp cq) := (hPw11.cell (p := ⟨_, _, none⟩) zbw10).trans b0w10
      have b1w11 : w11.cell? ⟨w.heap.size + 1, 1, none⟩ = some (.slice og j cg) := (hPw11.cell (p := ⟨_, _, none⟩) zbw10).trans b1w10
      have zvw11 : w1.heap.size < w11.heap.size := by omega
      have v0w11 : w11.cell? ⟨w1.heap.size, 0, none⟩ = some (.bool sv) := (hPw11.cell (p := ⟨_, _, none⟩) zvw10).trans v0w10
      have v1w11 : w11.cell? ⟨w1.heap.size, 1, none⟩ = some (.int .u64 (V 0)) := (hPw11.cell (p := ⟨_, _, none⟩) zvw10).trans v1w10
      have v2w11 : w11.cell? ⟨w1.heap.size, 2, none⟩ = some (.int .u64 (V 1)) := (hPw11.cell (p := ⟨_, _, none⟩) zvw10).trans v2w10
      have v3w11 : w11.cell? ⟨w1.heap.size, 3, none⟩ = some (.int .u64 (V 2)) := (hPw11.cell (p := ⟨_, _, none⟩) zvw10).trans v3w10
      have v4w11 : w11.cell? ⟨w1.heap.size, 4, none⟩ = some (.int .u64 (V 3)) := (hPw11.cell (p := ⟨_, _, none⟩) zvw10).trans v4w10
      have zuw11 : w2.heap.size < w11.heap.size := by omega
      have u0w11 : w11.cell? ⟨w2.heap.size, 0, none⟩ = some (.bool sw) := (hPw11.cell (p := ⟨_, _, none⟩) zuw10).trans u0w10
      have u1w11 : w11.cell? ⟨w2.heap.size, 1, none⟩ = some (.int .u64 (U 0)) := (hPw11.cell (p := ⟨_, _, none⟩) zuw10).trans u1w10
      have u2w11 : w11.cell? ⟨w2.heap.size, 2, none⟩ = some (.int .u64 (U 1)) := (hPw11.cell (p := ⟨_, _, none⟩) zuw10).trans u2w10
      have u3w11 : w11.cell? ⟨w2.heap.size, 3, none⟩ = some (.int .u64 (U 2)) := (hPw11.cell (p := ⟨_, _, none⟩) zuw10).trans u3w10
      have u4w11 : w11.cell? ⟨w2.heap.size, 4, none⟩ = some (.int .u64 (U 3)) := (hPw11.cell (p := ⟨_, _, none⟩) zuw10).trans u4w10
      have zmw11 : (w2.heap.size + 1) < w11.heap.size := by omega
      have m0w11 : w11.cell? ⟨(w2.heap.size + 1), 0, none⟩ = some (.slice o2 (np + mp) k2) := (hPw11.cell (p := ⟨_, _, none⟩) zmw10).trans m0w10
      have m1w11 : w11.cell? ⟨(w2.heap.size + 1), 1, none⟩ = some (.slice ot (nf + j) ct) := (hPw11.cell (p := ⟨_, _, none⟩) zmw10).trans m1w10
      have zjw11 : w8.heap.size < w11.heap.size := by omega
      have j0w11 : w11.cell? ⟨w8.heap.size, 0, none⟩ = some (.bool sx) := (hPw11.cell (p := ⟨_, _, none⟩) zjw10).trans j0w10
      have j1w11 : w11.cell? ⟨w8.heap.size, 1, none⟩ = some (.int .u64 (W 0)) := (hPw11.cell (p := ⟨_, _, none⟩) zjw10).trans j1w10
      have j2w11 : w11.cell? ⟨w8.heap.size, 2, none⟩ = some (.int .u64 (W 1)) := (hPw11.cell (p := ⟨_, _, none⟩) zjw10).trans j2w10
      have j3w11 : w11.cell? ⟨w8.heap.size, 3, none⟩ = some (.int .u64 (W 2)) := (hPw11.cell (p := ⟨_, _, none⟩) zjw10).trans j3w10
      have j4w11 : w11.cell? ⟨w8.heap.size, 4, none⟩ = some (.int .u64 (W 3)) := (hPw11.cell (p := ⟨_, _, none⟩) zjw10).trans j4w10
      have zxw11 : w9.heap.size < w11.heap.size := by omega
      have x0w11 : w11.cell? ⟨w9.heap.size, 0, none⟩ = some (.bool s0) := (hPw11.cell (p := ⟨_, _, none⟩) zxw10).trans x0w10
      have x1w11 : w11.cell? ⟨w9.heap.size, 1, none⟩ = some (.int .u64 (X0 0)) := (hPw11.cell (p := ⟨_, _, none⟩) zxw10).trans x1w10
      have x2w11 : w11.cell? ⟨w9.heap.size, 2, none⟩ = some (.int .u64 (X0 1)) := (hPw11.cell (p := ⟨_, _, none⟩) zxw10).trans x2w10
      have x3w11 : w11.cell? ⟨w9.heap.size, 3, none⟩ = some (.int .u64 (X0 2)) := (hPw11.cell (p := ⟨_, _, none⟩) zxw10).trans x3w10
      have x4w11 : w11.cell? ⟨w9.heap.size, 4, none⟩ = some (.int .u64 (X0 3)) := (hPw11.cell (p := ⟨_, _, none⟩) zxw10).trans x4w10
      have x5w11 : w11.cell? ⟨w9.heap.size, 5, none⟩ = some (.bool s1) := (hPw11.cell (p := ⟨_, _, none⟩) zxw10).trans x5w10
      have x6w11 : w11.cell? ⟨w9.heap.size, 6, none⟩ = some (.int .u64 (X1 0)) := (hPw11.cell (p := ⟨_, _, none⟩) zxw10).trans x6w10
      have x7w11 : w11.cell? ⟨w9.heap.size, 7, none⟩ = some (.int .u64 (X1 1)) := (hPw11.cell (p := ⟨_, _, none⟩) zxw10).trans x7w10
      have x8w11 : w11.cell? ⟨w9.heap.size, 8, none⟩ = some (.int .u64 (X1 2)) := (hPw11.cell (p := ⟨_, _, none⟩) zxw10).trans x8w10
      have x9w11 : w11.cell? ⟨w9.heap.size, 9, none⟩ = some (.int .u64 (X1 3)) := (hPw11.cell (p := ⟨_, _, none⟩) zxw10).trans x9w10
      have x10w11 : w11.cell? ⟨w9.heap.size, 10, none⟩ = some (.bool s2) := (hPw11.cell (p := ⟨_, _, none⟩) zxw10).trans x10w10
      have x11w11 : w11.cell? ⟨w9.heap.size, 11, none⟩ = some (.int .u64 (X2 0)) := (hPw11.cell (p := ⟨_, _, none⟩) zxw10).trans x11w10
      have x12w11 : w11.cell? ⟨w9.heap.size, 12, none⟩ = some (.int .u64 (X2 1)) := (hPw11.cell (p := ⟨_, _, none⟩) zxw10).trans x12w10
      have x13w11 : w11.cell? ⟨w9.heap.size, 13, none⟩ = some (.int .u64 (X2 2)) := (hPw11.cell (p := ⟨_, _, none⟩) zxw10).trans x13w10
      have x14w11 : w11.cell? ⟨w9.heap.size, 14, none⟩ = some (.int .u64 (X2 3)) := (hPw11.cell (p := ⟨_, _, none⟩) zxw10).trans x14w10
      have zyw11 : w10.heap.size < w11.heap.size := by omega
      have y0w11 : w11.cell? ⟨w10.heap.size, 0, none⟩ = some (.bool t0) := (hb.cell (p := ⟨_, _, none⟩) (by simp <;> omega)).trans (by simp [go_sem])
      have y1w11 : w11.cell? ⟨w10.heap.size, 1, none⟩ = some (.int .u64 (Y0 0)) := (hb.cell (p := ⟨_, _, none⟩) (by simp <;> omega)).trans (by simp [go_sem])
      have y2w11 : w11.cell? ⟨w10.heap.size, 2, none⟩ = some (.int .u64 (Y0 1)) := (hb.cell (p := ⟨_, _, none⟩) (by simp <;> omega)).trans (by simp [go_sem])
      have y3w11 : w11.cell? ⟨w10.heap.size, 3, none⟩ = some (.int .u64 (Y0 2)) := (hb.cell (p := ⟨_, _, none⟩) (by simp <;> omega)).trans (by simp [go_sem])
      have y4w11 : w11.cell? ⟨w10.heap.size, 4, none⟩ = some (.int .u64 (Y0 3)) := (hb.cell (p := ⟨_, _, none⟩) (by simp <;> omega)).trans (by simp [go_sem])
      have y5w11 : w11.cell? ⟨w10.heap.size, 5, none⟩ = some (.bool t1) := (hb.cell (p := ⟨_, _, none⟩) (by simp <;> omega)).trans (by simp [go_sem])
      have y6w11 : w11.cell? ⟨w10.heap.size, 6, none⟩ = some (.int .u64 (Y1 0)) := (hb.cell (p := ⟨_, _, none⟩) (by simp <;> omega)).trans (by simp [go_sem])
      have y7w11 : w11.cell? ⟨w10.heap.size, 7, none⟩ = some (.int .u64 (Y1 1)) := (hb.cell (p := ⟨_, _, none⟩) (by simp <;> omega)).trans (by simp [go_sem])
      have y8w11 : w11.cell? ⟨w10.heap.size, 8, none⟩ = some (.int .u64 (Y1 2)) := (hb.cell (p := ⟨_, _, none⟩) (by simp <;> omega)).trans (by simp [go_sem])
      have y9w11 : w11.cell? ⟨w10.heap.size, 9, none⟩ = some (.int .u64 (Y1 3)) := (hb.cell (p := ⟨_, _, none⟩) (by simp <;> omega)).trans (by simp [go_sem])
      have y10w11 : w11.cell? ⟨w10.heap.size, 10, none⟩ = some (.bool t2) := (hb.cell (p := ⟨_, _, none⟩) (by simp <;> omega)).trans (by simp [go_sem])
      have y11w11 : w11.cell? ⟨w10.heap.size, 11, none⟩ = some (.int .u64 (Y2 0)) := (hb.cell (p := ⟨_, _, none⟩) (by simp <;> omega)).trans (by simp [go_sem])
      have y12w11 : w11.cell? ⟨w10.heap.size, 12, none⟩ = some (.int .u64 (Y2 1)) := (hb.cell (p := ⟨_, _, none⟩) (by simp <;> omega)).trans (by simp [go_sem])
      have y13w11 : w11.cell? ⟨w10.heap.size, 13, none⟩ = some (.int .u64 (Y2 2)) := (hb.cell (p := ⟨_, _, none⟩) (by simp <;> omega)).trans (by simp [go_sem])
      have y14w11 : w11.cell? ⟨w10.heap.size, 14, none⟩ = some (.int .u64 (Y2 3)) := (hb.cell (p := ⟨_, _, none⟩) (by simp <;> omega)).trans (by simp [go_sem])
      replace HMJ := Lib.hid (HMJ.out.below hPw11)
      have hBw11 : Below w.heap.size w w11 := below_step (w := w) (by first | assumption | go_grown) hb
      clear hb hsw11 hPw11
      clear zaw10 zbw10 zvw10 zuw10 zmw10 zjw10 zxw10 a0w10 a1w10 b0w10 b1w10 v0w10 v1w10 v2w10 v3w10 v4w10 u0w10 u1w10 u2w10 u3w10 u4w10 m0w10 m1w10 j0w10 j1w10 j2w10 j3w10 j4w10 x0w10 x1w10 x2w10 x3w10 x4w10 x5w10 x6w10 x7w10 x8w10 x9w10 x10w10 x11w10 x12w10 x13w10 x14w10
      go_wp2_with fail
      refine wp_region_relw 21 (by kernel_rfl) (by kernel_rfl) (by kernel_rfl) ?_
      simp only [List.take_succ_cons, List.take_zero, fillL, Act.put, List.setIfInBounds_toArray, List.set_cons_zero, List.set_cons_succ]
      iterate 18
        apply rel_is
        · intro u wx hb hd
          have hz := hb.size
          (try simp only [World.size_alloc, World.size_setCell] at hz)
          have hz0 : w1.heap.size < wx.heap.size := by omega
          have hz1 : w2.heap.size < wx.heap.size := by omega
          have hz2 : w8.heap.size < wx.heap.size := by omega
          have hz3 : w9.heap.size < wx.heap.size := by omega
          have hz4 : w10.heap.size < wx.heap.size := by omega
          have hz5 : w11.heap.size < wx.heap.size := by omega
          obtain ⟨hc, hf⟩ := bcell hb
          have HBX := Lib.hid hb
          clear hb hz
          simp [depsS, Region.binds, updS, Stay.is, Stay.any] at hd
          go_simp
          first | exact ⟨Below.refl _ _, rfl⟩ | rfl
      apply rel_is
      · intro u wx hb hd
        have hz := hb.size
        (try simp only [World.size_alloc, World.size_setCell] at hz)
        have hz0 : w1.heap.size < wx.heap.size := by omega
        have hz1 : w2.heap.size < wx.heap.size := by omega
        have hz2 : w8.heap.size < wx.heap.size := by omega
        have hz3 : w9.heap.size < wx.heap.size := by omega
        have hz4 : w10.heap.size < wx.heap.size := by omega
        have hz5 : w11.heap.size < wx.heap.size := by omega
        obtain ⟨hc, hf⟩ := bcell hb
        have HBX := Lib.hid hb
        clear hb hz
        simp [depsS, Region.binds, updS, Stay.is, Stay.any] at hd
        go_simp
        first | rfl | (go_at_call 24; refine (HSV.out _).mono ?_; rintro e w1 ⟨rfl, hb1⟩; first | exact ⟨rfl, hb1⟩ | exact ⟨_, rfl, hb1, rfl⟩)
      iterate 2
        apply rel_is
        · intro u wx hb hd
          have hz := hb.size
          (try simp only [World.size_alloc, World.size_setCell] at hz)
          have hz0 : w1.heap.size < wx.heap.size := by omega
          have hz1 : w2.heap.size < wx.heap.size := by omega
          have hz2 : w8.heap.size < wx.heap.size := by omega
          have hz3 : w9.heap.size < wx.heap.size := by omega
          have hz4 : w10.heap.size < wx.heap.size := by omega
          have hz5 : w11.heap.size < wx.heap.size := by omega
          obtain ⟨hc, hf⟩ := bcell hb
          have HBX := Lib.hid hb
          clear hb hz
          simp [depsS, Region.binds, updS, Stay.is, Stay.any] at hd
          go_simp
          first | exact ⟨Below.refl _ _, rfl⟩ | rfl
      intro u w12 hb hE
      have e0 : u 0 = _ := endS_get hE 0 (by decide)
      have e1 : u 1 = _ := endS_get hE 1 (by decide)
      have e2 : u 2 = _ := endS_get hE 2 (by decide)
      have e3 : u 3 = _ := endS_get hE 3 (by decide)
      have e4 : u 4 = _ := endS_get hE 4 (by decide)
      have e5 : u 5 = _ := endS_get hE 5 (by decide)
      have e6 : u 6 = _ := endS_get hE 6 (by decide)
      have e7 : u 7 = _ := endS_get hE 7 (by decide)
      have e8 : u 8 = _ := endS_get hE 8 (by decide)
      have e9 : u 9 = _ := endS_get hE 9 (by decide)
      have e10 : u 10 = _ := endS_get hE 10 (by decide)
      have e11 : u 11 = _ := endS_get hE 11 (by decide)
      have e12 : u 12 = _ := endS_get hE 12 (by decide)
      have e13 : u 13 = _ := endS_get hE 13 (by decide)
      have e14 : u 14 = _ := endS_get hE 14 (by decide)
      have e15 : u 15 = _ := endS_get hE 15 (by decide)
      have e16 : u 16 = _ := endS_get hE 16 (by decide)
      have e17 : u 17 = _ := endS_get hE 17 (by decide)
      have e18 : u 18 = _ := endS_get hE 18 (by decide)
      have e19 : u 19 = _ := endS_get hE 19 (by decide)
      have e20 : u 20 = _ := endS_get hE 20 (by decide)
      simp only [List.drop_succ_cons, List.drop_zero, List.take_succ_cons, List.take_zero, fillL, Act.put, List.setIfInBounds_toArray, List.set_cons_zero, List.set_cons_succ, e0, e1, e2, e3, e4, e5, e6, e7, e8, e9, e10, e11, e12, e13, e14, e15, e16, e17, e18, e19, e20]
      clear e0 e1 e2 e3 e4 e5 e6 e7 e8 e9 e10 e11 e12 e13 e14 e15 e16 e17 e18 e19 e20 hE
      have HBw12 := Lib.hid (below_step (w := w11) (by first | assumption | go_grown) hb)
      have HBXw12 := Lib.hid hb
      have hzw12 := hb.size
      (try simp only [World.size_alloc, World.size_setCell] at hzw12)
      have hzw120 : w1.heap.size < w12.heap.size := by omega
      have hzw121 : w2.heap.size < w12.heap.size := by omega
      have hzw122 : w8.heap.size < w12.heap.size := by omega
      have hzw123 : w9.heap.size < w12.heap.size := by omega
      have hzw124 : w10.heap.size < w12.heap.size := by omega
      have hzw125 : w11.heap.size < w12.heap.size := by omega
      obtain ⟨hcw12, hfw12⟩ := bcell hb
      clear hb hzw12
      have x0w12 : w12.cell? ⟨w9.heap.size, 0, none⟩ = some (.bool s0) := (hcw12 w9.heap.size 0 (by simp <;> omega)).trans (by simp [go_sem, *])
      have x1w12 : w12.cell? ⟨w9.heap.size, 1, none⟩ = some (.int .u64 (X0 0)) := (hcw12 w9.heap.size 1 (by simp <;> omega)).trans (by simp [go_sem, *])
      have x2w12 : w12.cell? ⟨w9.heap.size, 2, none⟩ = some (.int .u64 (X0 1)) := (hcw12 w9.heap.size 2 (by simp <;> omega)).trans (by simp [go_sem, *])
      have x3w12 : w12.cell? ⟨w9.heap.size, 3, none⟩ = some (.int .u64 (X0 2)) := (hcw12 w9.heap.size 3 (by simp <;> omega)).trans (by simp [go_sem, *])
      have x4w12 : w12.cell? ⟨w9.heap.size, 4, none⟩ = some (.int .u64 (X0 3)) := (hcw12 w9.heap.size 4 (by simp <;> omega)).trans (by simp [go_sem, *])
      have x5w12 : w12.cell? ⟨w9.heap.size, 5, none⟩ = some (.bool s1) := (hcw12 w9.heap.size 5 (by simp <;> omega)).trans (by simp [go_sem, *])
      have x6w12 : w12.cell? ⟨w9.heap.size, 6, none⟩ = some (.int .u64 (X1 0)) := (hcw12 w9.heap.size 6 (by simp <;> omega)).trans (by simp [go_sem, *])
      have x7w12 : w12.cell? ⟨w9.heap.size, 7, none⟩ = some (.int .u64 (X1 1)) := (hcw12 w9.heap.size 7 (by simp <;> omega)).trans (by simp [go_sem, *])
      have x8w12 : w12.cell? ⟨w9.heap.size, 8, none⟩ = some (.int .u64 (X1 2)) := (hcw12 w9.heap.size 8 (by simp <;> omega)).trans (by simp [go_sem, *])
      have x9w12 : w12.cell? ⟨w9.heap.size, 9, none⟩ = some (.int .u64 (X1 3)) := (hcw12 w9.heap.size 9 (by simp <;> omega)).trans (by simp [go_sem, *])
      have x10w12 : w12.cell? ⟨w9.heap.size, 10, none⟩ = some (.bool s2) := (hcw12 w9.heap.size 10 (by simp <;> omega)).trans (by simp [go_sem, *])
      have x11w12 : w12.cell? ⟨w9.heap.size, 11, none⟩ = some (.int .u64 (X2 0)) := (hcw12 w9.heap.size 11 (by simp <;> omega)).trans (by simp [go_sem, *])
      have x12w12 : w12.cell? ⟨w9.heap.size, 12, none⟩ = some (.int .u64 (X2 1)) := (hcw12 w9.heap.size 12 (by simp <;> omega)).trans (by simp [go_sem, *])
      have x13w12 : w12.cell? ⟨w9.heap.size, 13, none⟩ = some (.int .u64 (X2 2)) := (hcw12 w9.heap.size 13 (by simp <;> omega)).trans (by simp [go_sem, *])
      have x14w12 : w12.cell? ⟨w9.heap.size, 14, none⟩ = some (.int .u64 (X2 3)) := (hcw12 w9.heap.size 14 (by simp <;> omega)).trans (by simp [go_sem, *])
      have y0w12 : w12.cell? ⟨w10.heap.size, 0, none⟩ = some (.bool t0) := (hcw12 w10.heap.size 0 (by simp <;> omega)).trans (by simp [go_sem, *])
      have y1w12 : w12.cell? ⟨w10.heap.size, 1, none⟩ = some (.int .u64 (Y0 0)) := (hcw12 w10.heap.size 1 (by simp <;> omega)).trans (by simp [go_sem, *])
      have y2w12 : w12.cell? ⟨w10.heap.size, 2, none⟩ = some (.int .u64 (Y0 1)) := (hcw12 w10.heap.size 2 (by simp <;> omega)).trans (by simp [go_sem, *])
      have y3w12 : w12.cell? ⟨w10.heap.size, 3, none⟩ = some (.int .u64 (Y0 2)) := (hcw12 w10.heap.size 3 (by simp <;> omega)).trans (by simp [go_sem, *])
      have y4w12 : w12.cell? ⟨w10.heap.size, 4, none⟩ = some (.int .u64 (Y0 3)) := (hcw12 w10.heap.size 4 (by simp <;> omega)).trans (by simp [go_sem, *])
      have y5w12 : w12.cell? ⟨w10.heap.size, 5, none⟩ = some (.bool t1) := (hcw12 w10.heap.size 5 (by simp <;> omega)).trans (by simp [go_sem, *])
      have y6w12 : w12.cell? ⟨w10.heap.size, 6, none⟩ = some (.int .u64 (Y1 0)) := (hcw12 w10.heap.size 6 (by simp <;> omega)).trans (by simp [go_sem, *])
      have y7w12 : w12.cell? ⟨w10.heap.size, 7, none⟩ = some (.int .u64 (Y1 1)) := (hcw12 w10.heap.size 7 (by simp <;> omega)).trans (by simp [go_sem, *])
      have y8w12 : w12.cell? ⟨w10.heap.size, 8, none⟩ = some (.int .u64 (Y1 2)) := (hcw12 w10.heap.size 8 (by simp <;> omega)).trans (by simp [go_sem, *])
      have y9w12 : w12.cell? ⟨w10.heap.size, 9, none⟩ = some (.int .u64 (Y1 3)) := (hcw12 w10.heap.size 9 (by simp <;> omega)).trans (by simp [go_sem, *])
      have y10w12 : w12.cell? ⟨w10.heap.size, 10, none⟩ = some (.bool t2) := (hcw12 w10.heap.size 10 (by simp <;> omega)).trans (by simp [go_sem, *])
      have y11w12 : w12.cell? ⟨w10.heap.size, 11, none⟩ = some (.int .u64 (Y2 0)) := (hcw12 w10.heap.size 11 (by simp <;> omega)).trans (by simp [go_sem, *])
      have y12w12 : w12.cell? ⟨w10.heap.size, 12, none⟩ = some (.int .u64 (Y2 1)) := (hcw12 w10.heap.size 12 (by simp <;> omega)).trans (by simp [go_sem, *])
      have y13w12 : w12.cell? ⟨w10.heap.size, 13, none⟩ = some (.int .u64 (Y2 2)) := (hcw12 w10.heap.size 13 (by simp <;> omega)).trans (by simp [go_sem, *])
      have y14w12 : w12.cell? ⟨w10.heap.size, 14, none⟩ = some (.int .u64 (Y2 3)) := (hcw12 w10.heap.size 14 (by simp <;> omega)).trans (by simp [go_sem, *])
      have c0w12 : w12.cell? ⟨w11.heap.size, 0, none⟩ = some (.bool z0) := (hcw12 w11.heap.size 0 (by simp <;> omega)).trans (by simp [go_sem, *])
      have c1w12 : w12.cell? ⟨w11.heap.size, 1, none⟩ = some (.int .u64 (Z0 0)) := (hcw12 w11.heap.size 1 (by simp <;> omega)).trans (by simp [go_sem, *])
      have c2w12 : w12.cell? ⟨w11.heap.size, 2, none⟩ = some (.int .u64 (Z0 1)) := (hcw12 w11.heap.size 2 (by simp <;> omega)).trans (by simp [go_sem, *])
      have c3w12 : w12.cell? ⟨w11.heap.size, 3, none⟩ = some (.int .u64 (Z0 2)) := (hcw12 w11.heap.size 3 (by simp <;> omega)).trans (by simp [go_sem, *])
      have c4w12 : w12.cell? ⟨w11.heap.size, 4, none⟩ = some (.int .u64 (Z0 3)) := (hcw12 w11.heap.size 4 (by simp <;> omega)).trans (by simp [go_sem, *])
      have c5w12 : w12.cell? ⟨w11.heap.size, 5, none⟩ = some (.bool z1) := (hcw12 w11.heap.size 5 (by simp <;> omega)).trans (by simp [go_sem, *])
      have c6w12 : w12.cell? ⟨w11.heap.size, 6, none⟩ = some (.int .u64 (Z1 0)) := (hcw12 w11.heap.size 6 (by simp <;> omega)).trans (by simp [go_sem, *])
      have c7w12 : w12.cell? ⟨w11.heap.size, 7, none⟩ = some (.int .u64 (Z1 1)) := (hcw12 w11.heap.size 7 (by simp <;> omega)).trans (by simp [go_sem, *])
      have c8w12 : w12.cell? ⟨w11.heap.size, 8, none⟩ = some (.int .u64 (Z1 2)) := (hcw12 w11.heap.size 8 (by simp <;> omega)).trans (by simp [go_sem, *])
      have c9w12 : w12.cell? ⟨w11.heap.size, 9, none⟩ = some (.int .u64 (Z1 3)) := (hcw12 w11.heap.size 9 (by simp <;> omega)).trans (by simp [go_sem, *])
      have c10w12 : w12.cell? ⟨w11.heap.size, 10, none⟩ = some (.bool z2) := (hcw12 w11.heap.size 10 (by simp <;> omega)).trans (by simp [go_sem, *])
      have c11w12 : w12.cell? ⟨w11.heap.size, 11, none⟩ = some (.int .u64 (Z2 0)) := (hcw12 w11.heap.size 11 (by simp <;> omega)).trans (by simp [go_sem, *])
      have c12w12 : w12.cell? ⟨w11.heap.size, 12, none⟩ = some (.int .u64 (Z2 1)) := (hcw12 w11.heap.size 12 (by simp <;> omega)).trans (by simp [go_sem, *])
      have c13w12 : w12.cell? ⟨w11.heap.size, 13, none⟩ = some (.int .u64 (Z2 2)) := (hcw12 w11.heap.size 13 (by simp <;> omega)).trans (by simp [go_sem, *])
      have c14w12 : w12.cell? ⟨w11.heap.size, 14, none⟩ = some (.int .u64 (Z2 3)) := (hcw12 w11.heap.size 14 (by simp <;> omega)).trans (by simp [go_sem, *])
      have e9 : w9.heap.size < w12.heap.size := by omega
      have e10 : w10.heap.size < w12.heap.size := by omega
      have e11 : w11.heap.size < w12.heap.size := by omega
      have HBZ : Hid (Below w.heap.size w w12) := below_step hBw11 HBw12.out
      clear hcw12 hfw12
      go_wp2_with fail
      refine wp_region_relw 21 (by kernel_rfl) (by kernel_rfl) (by kernel_rfl) ?_
      simp only [List.take_succ_cons, List.take_zero, fillL, Act.put, List.setIfInBounds_toArray, List.set_cons_zero, List.set_cons_succ]
      iterate 5
        apply rel_is
        · intro u wx hb hd
          have hz := hb.size
          (try simp only [World.size_alloc, World.size_setCell] at hz)
          have hz0 : w9.heap.size < wx.heap.size := by omega
          have hz1 : w10.heap.size < wx.heap.size := by omega
          have hz2 : w11.heap.size < wx.heap.size := by omega
          obtain ⟨hc, hf⟩ := bcell hb
          have HBX := Lib.hid hb
          clear hb hz
          simp [depsS, Region.binds, updS, Stay.is, Stay.any] at hd
          go_simp
          first | exact ⟨Below.refl _ _, rfl⟩ | rfl
      apply rel_is
      · intro u wx hb hd
        have hz := hb.size
        (try simp only [World.size_alloc, World.size_setCell] at hz)
        have hz0 : w9.heap.size < wx.heap.size := by omega
        have hz1 : w10.heap.size < wx.heap.size := by omega
        have hz2 : w11.heap.size < wx.heap.size := by omega
        obtain ⟨hc, hf⟩ := bcell hb
        have HBX := Lib.hid hb
        clear hb hz
        simp [depsS, Region.binds, updS, Stay.is, Stay.any] at hd
        go_simp
        first | rfl | (go_at_call 24; refine (HSM0.out _).mono ?_; rintro e w1 ⟨rfl, hb1⟩; first | exact ⟨rfl, hb1⟩ | exact ⟨_, rfl, hb1, rfl⟩)
      iterate 4
        apply rel_is
        · intro u wx hb hd
          have hz := hb.size
          (try simp only [World.size_alloc, World.size_setCell] at hz)
          have hz0 : w9.heap.size < wx.heap.size := by omega
          have hz1 : w10.heap.size < wx.heap.size := by omega
          have hz2 : w11.heap.size < wx.heap.size := by omega
          obtain ⟨hc, hf⟩ := bcell hb
          have HBX := Lib.hid hb
          clear hb hz
          simp [depsS, Region.binds, updS, Stay.is, Stay.any] at hd
          go_simp
          first | exact ⟨Below.refl _ _, rfl⟩ | rfl
      apply rel_is
      · intro u wx hb hd
        have hz := hb.size
        (try simp only [World.size_alloc, World.size_setCell] at hz)
        have hz0 : w9.heap.size < wx.heap.size := by omega
        have hz1 : w10.heap.size < wx.heap.size := by omega
        have hz2 : w11.heap.size < wx.heap.size := by omega
        obtain ⟨hc, hf⟩ := bcell hb
        have HBX := Lib.hid hb
        clear hb hz
        simp [depsS, Region.binds, updS, Stay.is, Stay.any] at hd
        go_simp
        first | rfl | (go_at_call 24; refine (HSM1.out _).mono ?_; rintro e w1 ⟨rfl, hb1⟩; first | exact ⟨rfl, hb1⟩ | exact ⟨_, rfl, hb1, rfl⟩)
      iterate 4
        apply rel_is
        · intro u wx hb hd
          have hz := hb.size
          (try simp only [World.size_alloc, World.size_setCell] at hz)
          have hz0 : w9.heap.size < wx.heap.size := by omega
          have hz1 : w10.heap.size < wx.heap.size := by omega
          have hz2 : w11.heap.size < wx.heap.size := by omega
          obtain ⟨hc, hf⟩ := bcell hb
          have HBX := Lib.hid hb
          clear hb hz
          simp [depsS, Region.binds, updS, Stay.is, Stay.any] at hd
          go_simp
          first | exact ⟨Below.refl _ _, rfl⟩ | rfl
      apply rel_is
      · intro u wx hb hd
        have hz := hb.size
        (try simp only [World.size_alloc, World.size_setCell] at hz)
        have hz0 : w9.heap.size < wx.heap.size := by omega
        have hz1 : w10.heap.size < wx.heap.size := by omega
        have hz2 : w11.heap.size < wx.heap.size := by omega
        obtain ⟨hc, hf⟩ := bcell hb
        have HBX := Lib.hid hb
        clear hb hz
        simp [depsS, Region.binds, updS, Stay.is, Stay.any] at hd
        go_simp
        first | rfl | (go_at_call 24; refine (HSM2.out _).mono ?_; rintro e w1 ⟨rfl, hb1⟩; first | exact ⟨rfl, hb1⟩ | exact ⟨_, rfl, hb1, rfl⟩)
      iterate 3
        apply rel_is
        · intro u wx hb hd
          have hz := hb.size
          (try simp only [World.size_alloc, World.size_setCell] at hz)
          have hz0 : w9.heap.size < wx.heap.size := by omega
          have hz1 : w10.heap.size < wx.heap.size := by omega
          have hz2 : w11.heap.size < wx.heap.size := by omega
          obtain ⟨hc, hf⟩ := bcell hb
          have HBX := Lib.hid hb
          clear hb hz
          simp [depsS, Region.binds, updS, Stay.is, Stay.any] at hd
          go_simp
          first | exact ⟨Below.refl _ _, rfl⟩ | rfl
      apply rel_is
      · intro u wx hb hd
        have hz := hb.size
        (try simp only [World.size_alloc, World.size_setCell] at hz)
        have hz0 : w9.heap.size < wx.heap.size := by omega
        have hz1 : w10.heap.size < wx.heap.size := by omega
        have hz2 : w11.heap.size < wx.heap.size := by omega
        obtain ⟨hc, hf⟩ := bcell hb
        have HBX := Lib.hid hb
        clear hb hz
        simp [depsS, Region.binds, updS, Stay.is, Stay.any] at hd
        go_simp
        first | rfl | (go_at_call 12; refine (awake_any _).mono ?_; rintro e w1 ⟨rfl, hb1⟩; first | exact ⟨rfl, hb1⟩ | exact ⟨_, rfl, hb1, rfl⟩)
      apply rel_is
      · intro u wx hb hd
        have hz := hb.size
        (try simp only [World.size_alloc, World.size_setCell] at hz)
        have hz0 : w9.heap.size < wx.heap.size := by omega
        have hz1 : w10.heap.size < wx.heap.size := by omega
        have hz2 : w11.heap.size < wx.heap.size := by omega
        obtain ⟨hc, hf⟩ := bcell hb
        have HBX := Lib.hid hb
        clear hb hz
        simp [depsS, Region.binds, updS, Stay.is, Stay.any] at hd
        go_simp
        first | exact ⟨Below.refl _ _, rfl⟩ | rfl
      intro u w13 hb hE
      have e0 : u 0 = _ := endS_get hE 0 (by decide)
      have e1 : u 1 = _ := endS_get hE 1 (by decide)
      have e2 : u 2 = _ := endS_get hE 2 (by decide)
      have e3 : u 3 = _ := endS_get hE 3 (by decide)
      have e4 : u 4 = _ := endS_get hE 4 (by decide)
      have e5 : u 5 = _ := endS_get hE 5 (by decide)
      have e6 : u 6 = _ := endS_get hE 6 (by decide)
      have e7 : u 7 = _ := endS_get hE 7 (by decide)
      have e8 : u 8 = _ := endS_get hE 8 (by decide)
      have e9 : u 9 = _ := endS_get hE 9 (by decide)
      have e10 : u 10 = _ := endS_get hE 10 (by decide)
      have e11 : u 11 = _ := endS_get hE 11 (by decide)
      have e12 : u 12 = _ := endS_get hE 12 (by decide)
      have e13 : u 13 = _ := endS_get hE 13 (by decide)
      have e14 : u 14 = _ := endS_get hE 14 (by decide)
      have e15 : u 15 = _ := endS_get hE 15 (by decide)
      have e16 : u 16 = _ := endS_get hE 16 (by decide)
      have e17 : u 17 = _ := endS_get hE 17 (by decide)
      have e18 : u 18 = _ := endS_get hE 18 (by decide)
      have e19 : u 19 = _ := endS_get hE 19 (by decide)
      have e20 : u 20 = _ := endS_get hE 20 (by decide)
      simp only [List.drop_succ_cons, List.drop_zero, List.take_succ_cons, List.take_zero, fillL, Act.put, List.setIfInBounds_toArray, List.set_cons_zero, List.set_cons_succ, e0, e1, e2, e3, e4, e5, e6, e7, e8, e9, e10, e11, e12, e13, e14, e15, e16, e17, e18, e19, e20]
      clear e0 e1 e2 e3 e4 e5 e6 e7 e8 e9 e10 e11 e12 e13 e14 e15 e16 e17 e18 e19 e20 hE
      have HBw13 := Lib.hid (below_step (w := w12) (by first | assumption | go_grown) hb)
      have HBXw13 := Lib.hid hb
      have hzw13 := hb.size
      (try simp only [World.size_alloc, World.size_setCell] at hzw13)
      have hzw130 : w9.heap.size < w13.heap.size := by omega
      have hzw131 : w10.heap.size < w13.heap.size := by omega
      have hzw132 : w11.heap.size < w13.heap.size := by omega
      obtain ⟨hcw13, hfw13⟩ := bcell hb
      clear hb hzw13
      go_wp2
      go_returns
      exact ⟨rfl, below_step HBZ.out HBw13.out⟩

set_option maxRecDepth 100000 in
theorem meshTogether_contract (H : Type) (enc : TypeId × Value → H) (W : World) (base : Nat) (args : Array Value) (ds gs : List (DataW H)) (before : List MemPlace)
    (hval : ∀ (j : Nat) t v, Try.f9.params[j]? = some t → args[j]? = some v → Value.okWide Try.prog W .any base t v)
    (hW : DataW.Whole enc Try.prog Try.f9.params.toList Rows.meshTogetherSpec.vars false W args.toList ds gs before) (hL : laidMetH Try.prog Rows.meshTogetherRow.laid W) (hSh : W.ShapedOpen Try.prog) :
    Calls Try.prog 9 args W fun e W' => ∃ v, e = .returned v ∧ Rows.meshTogetherSpec.post enc Try.prog Try.f9 false true false false W args v W' := by
  have hW' := hW
  obtain ⟨p, q, hA0, hV, rfl, hfz, hnd⟩ := hW
  have hA : DataW.TrodAll enc Try.prog W 0 (fun _ => true) true Try.f9.params.toList args.toList ds p := hA0
  rw [Try.params9] at hA hval
  obtain ⟨v0, vs0, d0, ds0, p0, q0, hargs, rfl, rfl, h0, r0⟩ := trodAll_cons hA
  obtain ⟨v1, vs1, d1, ds1, p1, q1, rfl, rfl, rfl, h1, r1⟩ := trodAll_cons r0
  obtain ⟨rfl, rfl, rfl⟩ := trodAll_nil r1
  obtain rfl : args = #[v0, v1] := by cases args; simp_all
  obtain ⟨np, P, nf, F, hm⟩ := mesh_arg (hval 0 25 v0 rfl rfl) h0
  obtain ⟨np2, P2, nf2, F2, hm2⟩ := mesh_arg (hval 1 25 v1 rfl rfl) h1
  refine (meshTogether_walk _ _ np nf np2 nf2 P F P2 F2 W hm hm2).mono fun e W' ⟨he, hb⟩ => ?_
  subst he
  exact ⟨_, rfl, law_post laidOut (by kernel_rfl) (by kernel_rfl) Try.underlying4 rfl hW' (fun _ => rfl) hb⟩
theorem meshTogether_reads (os : Os) {H : Type} (enc : TypeId × Value → H) : ∃ places, DataW.whole enc Try.prog ((World.settled Try.prog os).forCall (fun _ _ => 0) ⟨#[], #[.agg #[.slice none 0 0, .slice none 0 0], .agg #[.slice none 0 0, .slice none 0 0]], []⟩).memory Try.f9.params.toList Rows.meshTogetherSpec.vars false (#[.agg #[.slice none 0 0, .slice none 0 0], .agg #[.slice none 0 0, .slice none 0 0]] : Array Value).toList 8 = some ([.agg [.nil, .nil], .agg [.nil, .nil]], [], places) := ⟨[], by kernel_rfl⟩
set_option maxRecDepth 100000 in
theorem meshTogether_lifted (os : Os) (started : os.Started) (H : Type) (enc : TypeId × Value → H) (F : Stop.Interp) :
    ReturnsInHanded {} Try.checked os 9 .any ((OpenSpec.ofChange Rows.meshTogetherSpec).preRow enc Try.prog Try.f9 Rows.meshTogetherRow.domain false Rows.meshTogetherRow.laid) (((OpenSpec.ofChange Rows.meshTogetherSpec).at F).post enc Try.prog Try.f9 false true false false) := by
  obtain ⟨places, hx⟩ := meshTogether_reads os enc
  refine returnsInHanded_of_row (C := Try.checked) (s := OpenSpec.ofChange Rows.meshTogetherSpec) own started (by kernel_rfl) Try.func9
    (witness_row_at (enc := enc) (C := Try.checked) false (World.settled Try.prog os) #[.agg #[.slice none 0 0, .slice none 0 0], .agg #[.slice none 0 0, .slice none 0 0]] rfl (by kernel_rfl) (by kernel_rfl) (by kernel_rfl)
      (OpenSpec.preRow_of_cond 8 hx (by kernel_rfl) (fun k hk => by cases hk) (by kernel_rfl) (laidMet_nil _ _))) ?_
  intro W base args ds gs before hval hW _ _ _ hL hSh _
  exact meshTogether_contract H enc W base args ds gs before hval hW hL hSh
theorem meshTogether_said : Rows.MeshTogetherSaid :=
  OpenClaim.holds_of_cond 9 Try.f9 rfl rfl rfl rfl rfl rfl rfl ⟨rfl, rfl, rfl, rfl, rfl⟩ rfl rfl rfl rfl rfl (by kernel_rfl) Try.func9 (by kernel_rfl)
    (of_decide_eq_true (by kernel_rfl)) (by unfold Func.isWrapper; rw [if_neg (of_decide_eq_false (by kernel_rfl))]; exact ⟨rfl, rfl⟩)
    (fun os started H enc _ F => by rw [OpenClaim.pre_eq_preRow]; exact meshTogether_lifted os started H enc F)
#print axioms meshTogether_said
end Go.Proofs.Ytpjdmjmgkdgfnaa
