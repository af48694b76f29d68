/-
  mesh.Move, by walks. Conditions: none. By an AI agent.
-/
import Derived.Test.YtpjdmjmgkdgfnaaMeshO
import Derived.Test.YtpjdmjmgkdgfnaaVec3
namespace Go.Proofs.Ytpjdmjmgkdgfnaa
open Go Go.RowKit
set_option linter.unusedVariables false
set_option linter.unusedSimpArgs false
set_option maxRecDepth 100000

def moveP (a b c k : Int) (P : Nat → V) : Nat → V := fun i => applyF (a, b, c) k (P i)
def moveE (np : Nat) (P : Nat → V) (nf : Nat) (F : Nat → V) (a b c k : Int) : Int :=
  if checkM np P nf F ≠ 0 then checkM np P nf F else if validF (a, b, c) k = false then 9 else if allTo (fun i => inB20 (moveP a b c k P i)) np = false then 9 else 0
def mvN (E : Int) (n : Nat) : Nat := if E = 0 then n else 0
theorem MAt.nil (w : World) (P F : Nat → V) : MAt w (.agg #[.slice none 0 0, .slice none 0 0]) 0 P 0 F :=
  ⟨_, _, rfl, ⟨none, 0, rfl, by omega, by omega, fun h => by omega⟩, ⟨none, 0, rfl, by omega, by omega, fun h => by omega⟩⟩
theorem RowAt.set {w : World} {v : Value} {n : Nat} {F : Nat → V} (h : RowAt w v n F) {b : Nat} (i : Nat) (x : Value) (hn : some b ≠ v.ownBlock) : RowAt (w.setCell ⟨b, i, none⟩ x) v n F := by
  obtain ⟨oa, cap, rfl, h2, h3, h4⟩ := h
  refine ⟨oa, cap, rfl, h2, h3, fun h0 => ?_⟩
  obtain ⟨b', off, rfl, hlt, hc⟩ := h4 h0
  refine ⟨b', off, rfl, by simpa using hlt, fun i' j hi hj => ?_⟩
  have hne : b' ≠ b := fun e => hn (by rw [← e]; rfl)
  rw [← hc i' j hi hj]
  unfold World.cell?
  rw [heapS_other _ _ _ _ _ hne]
theorem add0 (g j : Nat) : (⟨g, 0, none⟩ : Addr).add j = ⟨g, j, none⟩ := by unfold Addr.add; split <;> simp_all
theorem built_cells {w : World} {g : Nat} {xs : Array Value} {t : TypeId} (h : w.heap[g]? = some (.cells xs t)) : ∀ j u, xs.toList[j]? = some u → w.cell? ((⟨g, 0, none⟩ : Addr).add j) = some u := fun j u hj => by
  rw [add0, cell_of_row w g j xs t (0, 0) h]
  simpa using hj
theorem owns_kept {w w' : World} {B : Nat} {t : TypeId} {k n : Nat} {v : Value} {xs : List Value} (h : w.ownsRow B t k v n xs) (hs : w.heap.size ≤ w'.heap.size) (hh : ∀ g, v.ownBlock = some g → w'.heap[g]? = w.heap[g]?) : w'.ownsRow B t k v n xs :=
  (OwnS.row B t k n xs).stab v w w' h hs hh

set_option maxHeartbeats 4000000 in
theorem Move_any (v : Value) (np nf : Nat) (P F : Nat → V) (a b c k : Int) (w : World) (h : MAt w v np P nf F) :
    Calls Try.prog 19 #[v, .agg #[.int .i64 a, .int .i64 b, .int .i64 c, .int .i64 k]] w fun e w' => ∃ v', e = .returned (.tuple #[v', .int .i64 (moveE np P nf F a b c k)]) ∧ MAt w' v' (mvN (moveE np P nf F a b c k) np) (moveP a b c k P) (mvN (moveE np P nf F a b c k) nf) F ∧ Below w.heap.size w w' := by
  have HM := Lib.hid h
  obtain ⟨vp, vf, rfl, g1, g2⟩ := h
  have HFA := Lib.hid g2
  obtain ⟨op, cp, rfl, hnp, hcp, help⟩ := g1.form
  obtain ⟨of', cf, rfl, -, -, -⟩ := g2.form
  have HEP := Lib.hid help
  clear g1 g2 help
  obtain ⟨ME, hME⟩ : ∃ e, moveE np P nf F a b c k = e := ⟨_, rfl⟩
  have HME := Lib.hid hME
  rw [hME]
  clear hME
  obtain ⟨E, hE⟩ : ∃ E, checkM np P nf F = E := ⟨_, rfl⟩
  have HE := Lib.hid hE
  clear hE
  obtain ⟨VB, hVB⟩ : ∃ q, validF (a, b, c) k = q := ⟨_, rfl⟩
  have HVA : Hid (∀ W, Calls Try.prog 45 #[.agg #[.int .i64 a, .int .i64 b, .int .i64 c, .int .i64 k]] W fun e w' => e = .returned (.bool VB) ∧ Below W.heap.size W w') := fun W => hVB ▸ Valid_any a b c k W
  have HVB := Lib.hid hVB
  clear hVB
  by_cases h0 : E = 0
  · subst h0
    have HG : Hid (Good np P nf F) := check_iff.1 HE.out
    have hn1 := HG.out.n1
    have hn2 := HG.out.n2
    cases VB
    · have hm : ME = 9 := by rw [← HME.out]; unfold moveE; rw [if_neg (by simp [HE.out]), if_pos HVB.out]
      subst hm
      go_enter Try.func19, Try.ntmps19
      go_wp2_with fail
      (go_at_call 13; refine (Check_any _ np nf P F _ (HM.out.below (by first | assumption | go_grown))).mono ?_; rintro e_ w1 ⟨rfl, hb⟩)
      have hsw1 := hb.size
      (try simp only [World.size_alloc, World.size_setCell] at hsw1)
      have zzw1 : w.heap.size < w1.heap.size := by omega
      have hPw1 : Below w.heap.size w w1 := below_step (w := w) (by first | exact Below.refl _ _ | go_grown) hb
      have zmw1 : w.heap.size < w1.heap.size := by omega
      have m0w1 : w1.cell? ⟨w.heap.size, 0, none⟩ = some (.slice op np cp) := (hb.cell (p := ⟨_, _, none⟩) (by simp <;> omega)).trans (by simp [go_sem])
      have m1w1 : w1.cell? ⟨w.heap.size, 1, none⟩ = some (.slice of' nf cf) := (hb.cell (p := ⟨_, _, none⟩) (by simp <;> omega)).trans (by simp [go_sem])
      have zpw1 : w.heap.size + 1 < w1.heap.size := by omega
      have p0w1 : w1.cell? ⟨w.heap.size + 1, 0, none⟩ = some (.int .i64 a) := (hb.cell (p := ⟨_, _, none⟩) (by simp <;> omega)).trans (by simp [go_sem])
      have p1w1 : w1.cell? ⟨w.heap.size + 1, 1, none⟩ = some (.int .i64 b) := (hb.cell (p := ⟨_, _, none⟩) (by simp <;> omega)).trans (by simp [go_sem])
      have p2w1 : w1.cell? ⟨w.heap.size + 1, 2, none⟩ = some (.int .i64 c) := (hb.cell (p := ⟨_, _, none⟩) (by simp <;> omega)).trans (by simp [go_sem])
      have p3w1 : w1.cell? ⟨w.heap.size + 1, 3, none⟩ = some (.int .i64 k) := (hb.cell (p := ⟨_, _, none⟩) (by simp <;> omega)).trans (by simp [go_sem])
      have zrw1 : w.heap.size + 1 + 1 < w1.heap.size := by omega
      have r0w1 : w1.cell? ⟨w.heap.size + 1 + 1, 0, none⟩ = some (.slice none 0 0) := (hb.cell (p := ⟨_, _, none⟩) (by simp <;> omega)).trans (by simp [go_sem])
      have r1w1 : w1.cell? ⟨w.heap.size + 1 + 1, 1, none⟩ = some (.slice none 0 0) := (hb.cell (p := ⟨_, _, none⟩) (by simp <;> omega)).trans (by simp [go_sem])
      have fr0w1 : w1.frozen? ⟨w.heap.size + 1 + 1, 0, none⟩ = false := (hb.frozen (p := ⟨_, _, none⟩) (by simp <;> omega)).trans (by simp [go_sem])
      have fr1w1 : w1.frozen? ⟨w.heap.size + 1 + 1, 1, none⟩ = false := (hb.frozen (p := ⟨_, _, none⟩) (by simp <;> omega)).trans (by simp [go_sem])
      have hBw1 : Below w.heap.size w w1 := below_step (w := w) (by first | assumption | go_grown) hb
      rw [HE.out]
      clear hb hsw1 hPw1
      go_wp2_with fail
      (go_at_call 45; refine (HVA.out _).mono ?_; rintro e_ w2 ⟨rfl, hb⟩)
      have hsw2 := hb.size
      (try simp only [World.size_alloc, World.size_setCell] at hsw2)
      have zzw2 : w.heap.size < w2.heap.size := by omega
      have hPw2 : Below w1.heap.size w1 w2 := below_step (w := w1) (by first | exact Below.refl _ _ | go_grown) hb
      have zmw2 : w.heap.size < w2.heap.size := by omega
      have m0w2 : w2.cell? ⟨w.heap.size, 0, none⟩ = some (.slice op np cp) := (hPw2.cell (p := ⟨_, _, none⟩) zmw1).trans m0w1
      have m1w2 : w2.cell? ⟨w.heap.size, 1, none⟩ = some (.slice of' nf cf) := (hPw2.cell (p := ⟨_, _, none⟩) zmw1).trans m1w1
      have zpw2 : w.heap.size + 1 < w2.heap.size := by omega
      have p0w2 : w2.cell? ⟨w.heap.size + 1, 0, none⟩ = some (.int .i64 a) := (hPw2.cell (p := ⟨_, _, none⟩) zpw1).trans p0w1
      have p1w2 : w2.cell? ⟨w.heap.size + 1, 1, none⟩ = some (.int .i64 b) := (hPw2.cell (p := ⟨_, _, none⟩) zpw1).trans p1w1
      have p2w2 : w2.cell? ⟨w.heap.size + 1, 2, none⟩ = some (.int .i64 c) := (hPw2.cell (p := ⟨_, _, none⟩) zpw1).trans p2w1
      have p3w2 : w2.cell? ⟨w.heap.size + 1, 3, none⟩ = some (.int .i64 k) := (hPw2.cell (p := ⟨_, _, none⟩) zpw1).trans p3w1
      have zrw2 : w.heap.size + 1 + 1 < w2.heap.size := by omega
      have r0w2 : w2.cell? ⟨w.heap.size + 1 + 1, 0, none⟩ = some (.slice none 0 0) := (hPw2.cell (p := ⟨_, _, none⟩) zrw1).trans r0w1
      have r1w2 : w2.cell? ⟨w.heap.size + 1 + 1, 1, none⟩ = some (.slice none 0 0) := (hPw2.cell (p := ⟨_, _, none⟩) zrw1).trans r1w1
      have fr0w2 : w2.frozen? ⟨w.heap.size + 1 + 1, 0, none⟩ = false := (hPw2.frozen (p := ⟨_, _, none⟩) zrw1).trans fr0w1
      have fr1w2 : w2.frozen? ⟨w.heap.size + 1 + 1, 1, none⟩ = false := (hPw2.frozen (p := ⟨_, _, none⟩) zrw1).trans fr1w1
      have hBw2 : Below w.heap.size w w2 := below_step (w := w) (by first | assumption | go_grown) hb
      clear hb hsw2 hPw2
      clear zmw1 zpw1 zrw1 m0w1 m1w1 p0w1 p1w1 p2w1 p3w1 r0w1 r1w1 fr0w1 fr1w1
      go_wp2
      all_goals (refine bodyPost_ret (v := .tuple #[.agg #[.slice none 0 0, .slice none 0 0], .int .i64 9]) (by simp (maxDischargeDepth := 9) [results, Try.results19, go_sem, *]) rfl ?_)
      exact ⟨_, rfl, MAt.nil _ _ _, by go_grown⟩
    · obtain ⟨PP, hPP⟩ : ∃ PP, moveP a b c k P = PP := ⟨_, rfl⟩
      have HPP : Hid (∀ i, applyF (a, b, c) k (P i) = PP i) := fun i => by rw [← hPP]; rfl
      obtain ⟨FB, hFB⟩ : ∃ b, allTo (fun i => inB20 (PP i)) np = b := ⟨_, rfl⟩
      have HFB := Lib.hid hFB
      have HMM : Hid (ME = if FB = false then 9 else 0) := by
        show _ = _
        rw [← HME.out, ← HFB.out, ← hPP]
        unfold moveE
        rw [if_neg (by simp [HE.out]), if_neg (by rw [HVB.out]; decide)]
      rw [hPP]
      clear hPP hFB
      go_enter Try.func19, Try.ntmps19
      go_wp2_with fail
      (go_at_call 13; refine (Check_any _ np nf P F _ (HM.out.below (by first | assumption | go_grown))).mono ?_; rintro e_ w1 ⟨rfl, hb⟩)
      have hsw1 := hb.size
      (try simp only [World.size_alloc, World.size_setCell] at hsw1)
      have zzw1 : w.heap.size < w1.heap.size := by omega
      have hPw1 : Below w.heap.size w w1 := below_step (w := w) (by first | exact Below.refl _ _ | go_grown) hb
      have zmw1 : w.heap.size < w1.heap.size := by omega
      have m0w1 : w1.cell? ⟨w.heap.size, 0, none⟩ = some (.slice op np cp) := (hb.cell (p := ⟨_, _, none⟩) (by simp <;> omega)).trans (by simp [go_sem])
      have m1w1 : w1.cell? ⟨w.heap.size, 1, none⟩ = some (.slice of' nf cf) := (hb.cell (p := ⟨_, _, none⟩) (by simp <;> omega)).trans (by simp [go_sem])
      have zpw1 : w.heap.size + 1 < w1.heap.size := by omega
      have p0w1 : w1.cell? ⟨w.heap.size + 1, 0, none⟩ = some (.int .i64 a) := (hb.cell (p := ⟨_, _, none⟩) (by simp <;> omega)).trans (by simp [go_sem])
      have p1w1 : w1.cell? ⟨w.heap.size + 1, 1, none⟩ = some (.int .i64 b) := (hb.cell (p := ⟨_, _, none⟩) (by simp <;> omega)).trans (by simp [go_sem])
      have p2w1 : w1.cell? ⟨w.heap.size + 1, 2, none⟩ = some (.int .i64 c) := (hb.cell (p := ⟨_, _, none⟩) (by simp <;> omega)).trans (by simp [go_sem])
      have p3w1 : w1.cell? ⟨w.heap.size + 1, 3, none⟩ = some (.int .i64 k) := (hb.cell (p := ⟨_, _, none⟩) (by simp <;> omega)).trans (by simp [go_sem])
      have zrw1 : w.heap.size + 1 + 1 < w1.heap.size := by omega
      have r0w1 : w1.cell? ⟨w.heap.size + 1 + 1, 0, none⟩ = some (.slice none 0 0) := (hb.cell (p := ⟨_, _, none⟩) (by simp <;> omega)).trans (by simp [go_sem])
      have r1w1 : w1.cell? ⟨w.heap.size + 1 + 1, 1, none⟩ = some (.slice none 0 0) := (hb.cell (p := ⟨_, _, none⟩) (by simp <;> omega)).trans (by simp [go_sem])
      have fr0w1 : w1.frozen? ⟨w.heap.size + 1 + 1, 0, none⟩ = false := (hb.frozen (p := ⟨_, _, none⟩) (by simp <;> omega)).trans (by simp [go_sem])
      have fr1w1 : w1.frozen? ⟨w.heap.size + 1 + 1, 1, none⟩ = false := (hb.frozen (p := ⟨_, _, none⟩) (by simp <;> omega)).trans (by simp [go_sem])
      have hBw1 : Below w.heap.size w w1 := below_step (w := w) (by first | assumption | go_grown) hb
      rw [HE.out]
      clear hb hsw1 hPw1
      go_wp2_with fail
      (go_at_call 45; refine (HVA.out _).mono ?_; rintro e_ w2 ⟨rfl, hb⟩)
      have hsw2 := hb.size
      (try simp only [World.size_alloc, World.size_setCell] at hsw2)
      have zzw2 : w.heap.size < w2.heap.size := by omega
      have hPw2 : Below w1.heap.size w1 w2 := below_step (w := w1) (by first | exact Below.refl _ _ | go_grown) hb
      have zmw2 : w.heap.size < w2.heap.size := by omega
      have m0w2 : w2.cell? ⟨w.heap.size, 0, none⟩ = some (.slice op np cp) := (hPw2.cell (p := ⟨_, _, none⟩) zmw1).trans m0w1
      have m1w2 : w2.cell? ⟨w.heap.size, 1, none⟩ = some (.slice of' nf cf) := (hPw2.cell (p := ⟨_, _, none⟩) zmw1).trans m1w1
      have zpw2 : w.heap.size + 1 < w2.heap.size := by omega
      have p0w2 : w2.cell? ⟨w.heap.size + 1, 0, none⟩ = some (.int .i64 a) := (hPw2.cell (p := ⟨_, _, none⟩) zpw1).trans p0w1
      have p1w2 : w2.cell? ⟨w.heap.size + 1, 1, none⟩ = some (.int .i64 b) := (hPw2.cell (p := ⟨_, _, none⟩) zpw1).trans p1w1
      have p2w2 : w2.cell? ⟨w.heap.size + 1, 2, none⟩ = some (.int .i64 c) := (hPw2.cell (p := ⟨_, _, none⟩) zpw1).trans p2w1
      have p3w2 : w2.cell? ⟨w.heap.size + 1, 3, none⟩ = some (.int .i64 k) := (hPw2.cell (p := ⟨_, _, none⟩) zpw1).trans p3w1
      have zrw2 : w.heap.size + 1 + 1 < w2.heap.size := by omega
      have r0w2 : w2.cell? ⟨w.heap.size + 1 + 1, 0, none⟩ = some (.slice none 0 0) := (hPw2.cell (p := ⟨_, _, none⟩) zrw1).trans r0w1
      have r1w2 : w2.cell? ⟨w.heap.size + 1 + 1, 1, none⟩ = some (.slice none 0 0) := (hPw2.cell (p := ⟨_, _, none⟩) zrw1).trans r1w1
      have fr0w2 : w2.frozen? ⟨w.heap.size + 1 + 1, 0, none⟩ = false := (hPw2.frozen (p := ⟨_, _, none⟩) zrw1).trans fr0w1
      have fr1w2 : w2.frozen? ⟨w.heap.size + 1 + 1, 1, none⟩ = false := (hPw2.frozen (p := ⟨_, _, none⟩) zrw1).trans fr1w1
      have hBw2 : Below w.heap.size w w2 := below_step (w := w) (by first | assumption | go_grown) hb
      clear hb hsw2 hPw2
      clear zmw1 zpw1 zrw1 m0w1 m1w1 p0w1 p1w1 p2w1 p3w1 r0w1 r1w1 fr0w1 fr1w1
      go_wp2_with fail
      (go_at_call 46; refine (cloneF_any _ nf F _ (HFA.out.below (by first | assumption | go_grown)) (by omega)).mono ?_; rintro e_ w3 ⟨v', rfl, hO, hb⟩)
      have hsw3 := hb.size
      (try simp only [World.size_alloc, World.size_setCell] at hsw3)
      have zzw3 : w.heap.size < w3.heap.size := by omega
      have hPw3 : Below w2.heap.size w2 w3 := below_step (w := w2) (by first | exact Below.refl _ _ | go_grown) hb
      have zmw3 : w.heap.size < w3.heap.size := by omega
      have m0w3 : w3.cell? ⟨w.heap.size, 0, none⟩ = some (.slice op np cp) := (hPw3.cell (p := ⟨_, _, none⟩) zmw2).trans m0w2
      have m1w3 : w3.cell? ⟨w.heap.size, 1, none⟩ = some (.slice of' nf cf) := (hPw3.cell (p := ⟨_, _, none⟩) zmw2).trans m1w2
      have zpw3 : w.heap.size + 1 < w3.heap.size := by omega
      have p0w3 : w3.cell? ⟨w.heap.size + 1, 0, none⟩ = some (.int .i64 a) := (hPw3.cell (p := ⟨_, _, none⟩) zpw2).trans p0w2
      have p1w3 : w3.cell? ⟨w.heap.size + 1, 1, none⟩ = some (.int .i64 b) := (hPw3.cell (p := ⟨_, _, none⟩) zpw2).trans p1w2
      have p2w3 : w3.cell? ⟨w.heap.size + 1, 2, none⟩ = some (.int .i64 c) := (hPw3.cell (p := ⟨_, _, none⟩) zpw2).trans p2w2
      have p3w3 : w3.cell? ⟨w.heap.size + 1, 3, none⟩ = some (.int .i64 k) := (hPw3.cell (p := ⟨_, _, none⟩) zpw2).trans p3w2
      have zrw3 : w.heap.size + 1 + 1 < w3.heap.size := by omega
      have r0w3 : w3.cell? ⟨w.heap.size + 1 + 1, 0, none⟩ = some (.slice none 0 0) := (hPw3.cell (p := ⟨_, _, none⟩) zrw2).trans r0w2
      have r1w3 : w3.cell? ⟨w.heap.size + 1 + 1, 1, none⟩ = some (.slice none 0 0) := (hPw3.cell (p := ⟨_, _, none⟩) zrw2).trans r1w2
      have fr0w3 : w3.frozen? ⟨w.heap.size + 1 + 1, 0, none⟩ = false := (hPw3.frozen (p := ⟨_, _, none⟩) zrw2).trans fr0w2
      have fr1w3 : w3.frozen? ⟨w.heap.size + 1 + 1, 1, none⟩ = false := (hPw3.frozen (p := ⟨_, _, none⟩) zrw2).trans fr1w2
      have hBw3 : Below w.heap.size w w3 := below_step (w := w) (by first | assumption | go_grown) hb
      have HFC := Lib.hid (owns_R hO)
      have HFN := Lib.hid (owns_low hO (b := w.heap.size + 1 + 1) (by omega))
      clear hO
      obtain ⟨oc, cc, rfl, -, -, -⟩ := HFC.out.form
      clear hb hsw3 hPw3
      clear zmw2 zpw2 zrw2 m0w2 m1w2 p0w2 p1w2 p2w2 p3w2 r0w2 r1w2 fr0w2 fr1w2
      go_wp2
      go_loopw [27] (fun i wr => ∃ (j : Nat) (ol : Option Addr) (cl : Nat), j ≤ np ∧ i = .int .i64 j ∧ Hid (wr.heap[w3.heap.size]? = some (.cells #[.slice ol j cl, .slice oc nf cc] 25)) ∧ Hid (wr.ownsRow (w3.heap.size + 1) 40 3 (.slice ol j cl) j (flV PP j)) ∧ w3.heap.size < wr.heap.size ∧ Below w3.heap.size w3 wr) (fun i _ => np - (intOf i).toNat)
      case atStart =>
        refine ⟨0, none, 0, by omega, rfl, ?_, World.ownsRow_nil _ _ _ _, by simp, by go_grown⟩
        show _ = _
        simp (disch := (first | omega | (simp only [World.size_alloc, World.size_setCell] <;> omega))) only [heapA_at, heapA_old, heapS_same, heapS_other, setObj, Option.map_some]
      case round =>
        obtain ⟨w4, rfl⟩ : ∃ x : World, x = wr := ⟨_, rfl⟩
        obtain ⟨j, ol, cl, hj, rfl, HOUT, HO, zow4, hB34⟩ := hrel
        have HB34 := Lib.hid hB34
        have hBw4 : Below w.heap.size w w4 := below_step hBw3 hB34
        have m0w4 := (hB34.cell (p := ⟨_, _, none⟩) zmw3).trans m0w3
        have m1w4 := (hB34.cell (p := ⟨_, _, none⟩) zmw3).trans m1w3
        have p0w4 := (hB34.cell (p := ⟨_, _, none⟩) zpw3).trans p0w3
        have p1w4 := (hB34.cell (p := ⟨_, _, none⟩) zpw3).trans p1w3
        have p2w4 := (hB34.cell (p := ⟨_, _, none⟩) zpw3).trans p2w3
        have p3w4 := (hB34.cell (p := ⟨_, _, none⟩) zpw3).trans p3w3
        obtain ⟨o0w4, o1w4, of4, os4⟩ := cells_at2 HOUT.out
        have hs34 := hB34.size
        have zmw4 : w.heap.size < w4.heap.size := by omega
        have zpw4 : w.heap.size + 1 < w4.heap.size := by omega
        by_cases hlt : j < np
        · obtain ⟨b1, f1, rfl, hbl1, hcl1⟩ := HEP.out j hlt
          have c0 : w4.cell? ⟨b1, f1 + j * 3, none⟩ = some (.int .i64 (P j).1) := (hBw4.cell (p := ⟨_, _, none⟩) hbl1).trans (hcl1 j hlt).1
          have c1 : w4.cell? ⟨b1, f1 + j * 3 + 1, none⟩ = some (.int .i64 (P j).2.1) := (hBw4.cell (p := ⟨_, _, none⟩) hbl1).trans (hcl1 j hlt).2.1
          have c2 : w4.cell? ⟨b1, f1 + j * 3 + 2, none⟩ = some (.int .i64 (P j).2.2) := (hBw4.cell (p := ⟨_, _, none⟩) hbl1).trans (hcl1 j hlt).2.2
          have hbr : b1 < w4.heap.size := by omega
          have k0 : (0 : Int) ≤ (j : Int) := by omega
          have k1 : (j : Int) < (np : Int) := by omega
          clear hcl1 hs34
          obtain ⟨i0, hi0, hz00, hz01, hz02⟩ := infoR_parts info_vec
          have hu0 : Try.prog.underlying 22 = some (.slice 40) := Try.underlying22
          obtain ⟨x, hx⟩ : ∃ x, (P j).1 = x := ⟨_, rfl⟩
          obtain ⟨y, hy⟩ : ∃ y, (P j).2.1 = y := ⟨_, rfl⟩
          obtain ⟨z, hz⟩ : ∃ z, (P j).2.2 = z := ⟨_, rfl⟩
          obtain ⟨X, hX⟩ : ∃ x, (PP j).1 = x := ⟨_, rfl⟩
          obtain ⟨Y, hY⟩ : ∃ y, (PP j).2.1 = y := ⟨_, rfl⟩
          obtain ⟨Z, hZ⟩ : ∃ z, (PP j).2.2 = z := ⟨_, rfl⟩
          have HAP : Hid (∀ W, Calls Try.prog 47 #[.agg #[.int .i64 a, .int .i64 b, .int .i64 c, .int .i64 k], .agg #[.int .i64 x, .int .i64 y, .int .i64 z]] W fun e w' => e = .returned (.agg #[.int .i64 X, .int .i64 Y, .int .i64 Z]) ∧ Below W.heap.size W w') := by
            show ∀ W, _
            intro W
            have h := Apply_any a b c k x y z W
            rw [show (x, y, z) = P j by rw [← hx, ← hy, ← hz], HPP.out j, hX, hY, hZ] at h
            exact h
          have HFL : Hid (flV PP j ++ [.int .i64 X, .int .i64 Y, .int .i64 Z] = flV PP (j + 1)) := by show _ = _; rw [flV, hX, hY, hZ]
          rw [hx] at c0
          rw [hy] at c1
          rw [hz] at c2
          clear hx hy hz hX hY hZ
          go_wp2_with fail
          refine wp_region_relm 8 6 [0, 1, 2, 3, 4, 5] (by kernel_rfl) (by kernel_rfl) (by kernel_rfl) (by decide) (by kernel_rfl) ?_
          simp only [List.take_succ_cons, List.take_zero, fillL, Act.put, List.setIfInBounds_toArray, List.set_cons_zero, List.set_cons_succ]
          apply relm_is (by decide) (by decide)
          · intro u wx hb hd
            have hz := hb.size
            (try simp only [World.size_alloc, World.size_setCell] at hz)
            have hz0 : w3.heap.size < wx.heap.size := by omega
            have hz1 : w.heap.size + 1 < wx.heap.size := by omega
            have hz2 : w4.heap.size < wx.heap.size := by omega
            obtain ⟨hc, hf⟩ := bcell hb
            have HBX := Lib.hid hb
            clear hb hz
            simp [depsS, Region.binds, updS, Stay.is, Stay.any] at hd
            go_simp
            first | exact ⟨Below.refl _ _, rfl⟩ | rfl
          apply relm_is (by decide) (by decide)
          · intro u wx hb hd
            have hz := hb.size
            (try simp only [World.size_alloc, World.size_setCell] at hz)
            have hz0 : w3.heap.size < wx.heap.size := by omega
            have hz1 : w.heap.size + 1 < wx.heap.size := by omega
            have hz2 : w4.heap.size < wx.heap.size := by omega
            obtain ⟨hc, hf⟩ := bcell hb
            have HBX := Lib.hid hb
            clear hb hz
            simp [depsS, Region.binds, updS, Stay.is, Stay.any] at hd
            go_simp
            first | exact ⟨Below.refl _ _, rfl⟩ | rfl
          apply relm_is (by decide) (by decide)
          · intro u wx hb hd
            have hz := hb.size
            (try simp only [World.size_alloc, World.size_setCell] at hz)
            have hz0 : w3.heap.size < wx.heap.size := by omega
            have hz1 : w.heap.size + 1 < wx.heap.size := by omega
            have hz2 : w4.heap.size < wx.heap.size := by omega
            obtain ⟨hc, hf⟩ := bcell hb
            have HBX := Lib.hid hb
            clear hb hz
            simp [depsS, Region.binds, updS, Stay.is, Stay.any] at hd
            go_simp
            first | exact ⟨Below.refl _ _, rfl⟩ | rfl
          apply relm_is (by decide) (by decide)
          · intro u wx hb hd
            have hz := hb.size
            (try simp only [World.size_alloc, World.size_setCell] at hz)
            have hz0 : w3.heap.size < wx.heap.size := by omega
            have hz1 : w.heap.size + 1 < wx.heap.size := by omega
            have hz2 : w4.heap.size < wx.heap.size := by omega
            obtain ⟨hc, hf⟩ := bcell hb
            have HBX := Lib.hid hb
            clear hb hz
            simp [depsS, Region.binds, updS, Stay.is, Stay.any] at hd
            go_simp
            first | exact ⟨Below.refl _ _, rfl⟩ | rfl
          apply relm_is (by decide) (by decide)
          · intro u wx hb hd
            have hz := hb.size
            (try simp only [World.size_alloc, World.size_setCell] at hz)
            have hz0 : w3.heap.size < wx.heap.size := by omega
            have hz1 : w.heap.size + 1 < wx.heap.size := by omega
            have hz2 : w4.heap.size < wx.heap.size := by omega
            obtain ⟨hc, hf⟩ := bcell hb
            have HBX := Lib.hid hb
            clear hb hz
            simp [depsS, Region.binds, updS, Stay.is, Stay.any] at hd
            go_simp
            first | rfl | (go_at_call 47; refine (HAP.out _).mono ?_; rintro e w1 ⟨rfl, hb1⟩; first | exact ⟨rfl, hb1⟩ | exact ⟨_, rfl, hb1, rfl⟩)
          refine relm_stay (Stay.built 1 #[.int .i64 X, .int .i64 Y, .int .i64 Z] 40) (by decide) (by decide) ?_ ?_
          · intro u wx hb hd
            have hz := hb.size
            (try simp only [World.size_alloc, World.size_setCell] at hz)
            have hz0 : w3.heap.size < wx.heap.size := by omega
            have hz1 : w.heap.size + 1 < wx.heap.size := by omega
            have hz2 : w4.heap.size < wx.heap.size := by omega
            obtain ⟨hc, hf⟩ := bcell hb
            have HBX := Lib.hid hb
            clear hb hz
            simp [depsS, Region.binds, updS, Stay.is, Stay.any] at hd
            go_simp
            exact ⟨(Below.refl _ _).alloc (Nat.le_refl _) _, built_new _ _ _ _⟩
          refine relm_append (w3.heap.size + 1) (.tmp 32) (.tmp 36) 22 rfl rfl 40 i0 (.agg #[.int .i64 0, .int .i64 0, .int .i64 0]) 3 24 (j) (1) (flV PP j) [.int .i64 X, .int .i64 Y, .int .i64 Z] hu0 hi0 hz00 hz01 hz02 rfl (by decide) (.slice ol j cl) (by decide) (owns_on HO.out (by go_grown)) (by simp; omega) (by unfold maxLen; omega) (by omega) rfl (by intro u hu; simp only [List.mem_cons, List.not_mem_nil, or_false] at hu; rcases hu with rfl | rfl | rfl <;> rfl) ?_ ?_
          · intro u wx hb hd
            have hz := hb.size
            (try simp only [World.size_alloc, World.size_setCell] at hz)
            have hz0 : w3.heap.size < wx.heap.size := by omega
            have hz1 : w.heap.size + 1 < wx.heap.size := by omega
            have hz2 : w4.heap.size < wx.heap.size := by omega
            obtain ⟨hc, hf⟩ := bcell hb
            have HBX := Lib.hid hb
            clear hb hz
            simp [depsS, Region.binds, updS, Stay.is, Stay.any] at hd
            obtain ⟨h1, h2, -⟩ := hd
            obtain ⟨g, hg1, hg2⟩ := h2
            refine ⟨by first | exact h1 | simpa [Act.eval] using h1, some ⟨g, 0, none⟩, 1, by first | exact hg1 | simpa [Act.eval] using hg1, fun h => (by cases h), fun ad had j u hj => ?_⟩
            cases had
            exact built_cells hg2 j u hj
          apply relm_free (by decide) (by decide)
          · intro u wx
            refine ⟨by simp [Region.wanted], ?_⟩
            go_simp
            first | exact ⟨rfl, rfl⟩ | rfl
          intro u w5 hq5 hE
          replace hq5 : (Stay.app _ _ _ _ _ _ _).p (u 6) w5 := hq5
          have e0 : u 0 = _ := hE 0 (by decide) (by decide) (Const.is _)
          have e1 : u 1 = _ := hE 1 (by decide) (by decide) (Const.is _)
          have e2 : u 2 = _ := hE 2 (by decide) (by decide) (Const.is _)
          have e3 : u 3 = _ := hE 3 (by decide) (by decide) (Const.is _)
          have e4 : u 4 = _ := hE 4 (by decide) (by decide) (Const.is _)
          have e7 : u 7 = _ := hE 7 (by decide) (by decide) (Const.is _)
          obtain ⟨HOw5, hgw5, hsw5, hnw5⟩ := hq5
          (try simp only [World.size_alloc, World.size_setCell] at hsw5 hnw5)
          simp only [List.drop_succ_cons, List.drop_zero, List.take_succ_cons, List.take_zero, fillL, Act.put, List.setIfInBounds_toArray, List.set_cons_zero, List.set_cons_succ, e0, e1, e2, e3, e4, e7]
          clear e0 e1 e2 e3 e4 e7 hE
          generalize u 6 = vw5 at *
          replace HOw5 := Lib.hid HOw5
          have hnb : ∀ b, b < w3.heap.size + 1 → some b ≠ (Value.slice ol j cl).ownBlock := fun b hb => owns_low HO.out hb
          have HOUT5 : Hid (w5.heap[w3.heap.size]? = some (.cells #[.slice ol j cl, .slice oc nf cc] 25)) := (hgw5.block _ (by simp <;> omega) (hnb _ (by omega))).trans ((heapA_old _ _ _ (by omega)).trans HOUT.out)
          have hB35 : Below w3.heap.size w3 w5 := Below.grown (by go_grown) hgw5 (by simp <;> omega) (fun q hq => by
            rcases Nat.lt_or_ge q (w3.heap.size + 1) with h' | h'
            · exact absurd hq.symm (hnb _ h')
            · omega)
          rw [HFL.out] at HOw5
          obtain ⟨o5, c5, rfl, -, -, -⟩ := (owns_R (F := PP) HOw5.out).form
          obtain ⟨q0w5, q1w5, qf5, qs5⟩ := cells_at2 HOUT5.out
          have HB35 := Lib.hid hB35
          have HNL : Hid (∀ b, b < w3.heap.size + 1 → some b ≠ (Value.slice o5 (j + 1) c5).ownBlock) := fun b hb => owns_low HOw5.out hb
          clear hB35 hgw5 hnw5 hsw5 hnb o0w4 o1w4 of4 os4
          go_wp2
          go_roundw
          case rel =>
            refine ⟨j + 1, o5, c5, by omega, by go_num, ?_, owns_kept HOw5.out (by simp) (fun g hg => heapS_other _ _ _ _ _ (fun e => HNL.out g (by omega) hg.symm)), by simp <;> omega, by have h := HB35.out; go_grown⟩
            show _ = _
            rw [heapS_same, HOUT5.out]
            rfl
          case measure => simp [intOf]; omega
        · obtain rfl : j = np := by omega
          obtain ⟨e1, e2, ef, es⟩ := cells_at2 HOUT.out
          have r0w4 := (hB34.cell (p := ⟨_, _, none⟩) zrw3).trans r0w3
          have r1w4 := (hB34.cell (p := ⟨_, _, none⟩) zrw3).trans r1w3
          have fr0w4 := (hB34.frozen (p := ⟨_, _, none⟩) zrw3).trans fr0w3
          have fr1w4 := (hB34.frozen (p := ⟨_, _, none⟩) zrw3).trans fr1w3
          have HCB : Hid (∀ W, Below w4.heap.size w4 W → Calls Try.prog 30 #[.slice ol j cl, .func (.func 31) #[] #[]] W fun e w' => e = .returned (.bool (!FB)) ∧ Below W.heap.size W w') := fun W hW => HFB.out ▸ containsBeyond_any _ j PP W ((owns_R HO.out).below hW)
          have HLN : Hid (some (w.heap.size + 1 + 1) ≠ (Value.slice ol j cl).ownBlock) := owns_low HO.out (by omega)
          have zrw4 : w.heap.size + 1 + 1 < w4.heap.size := by omega
          clear hs34 hnp m0w3 m1w3 r0w3 r1w3 p0w3 p1w3 p2w3 p3w3 fr0w3 fr1w3
          cases FB
          · have hm : ME = 9 := HMM.out
            subst hm
            replace HCB : Hid (∀ W, Below w4.heap.size w4 W → Calls Try.prog 30 #[.slice ol j cl, .func (.func 31) #[] #[]] W fun e w' => e = .returned (.bool true) ∧ Below W.heap.size W w') := HCB
            go_wp2_with fail
            (go_at_call 30; refine (HCB.out _ (by first | exact Below.refl _ _ | go_grown)).mono ?_; rintro e_ w5 ⟨rfl, hb⟩)
            have hz5 := hb.size
            have hB45 : Below w4.heap.size w4 w5 := below_step (w := w4) (by first | exact Below.refl _ _ | go_grown) hb
            have r0w5 := (hB45.cell (p := ⟨_, _, none⟩) zrw4).trans r0w4
            have r1w5 := (hB45.cell (p := ⟨_, _, none⟩) zrw4).trans r1w4
            have fr0w5 := (hB45.frozen (p := ⟨_, _, none⟩) zrw4).trans fr0w4
            have fr1w5 := (hB45.frozen (p := ⟨_, _, none⟩) zrw4).trans fr1w4
            have o0w5 := (hB45.cell (p := ⟨w3.heap.size, 0, none⟩) es).trans e1
            have o1w5 := (hB45.cell (p := ⟨w3.heap.size, 1, none⟩) es).trans e2
            have zrw5 : w.heap.size + 1 + 1 < w5.heap.size := by omega
            have zow5 : w3.heap.size < w5.heap.size := by omega
            have hBw5 : Below w.heap.size w w5 := below_step hBw4 hB45
            clear hb r0w4 r1w4 fr0w4 fr1w4 e1 e2 ef m0w4 m1w4 o0w4 o1w4 of4
            go_wp2
            all_goals (refine bodyPost_ret (v := .tuple #[.agg #[.slice none 0 0, .slice none 0 0], .int .i64 9]) (by simp (maxDischargeDepth := 9) [results, Try.results19, go_sem, *]) rfl ?_)
            exact ⟨_, rfl, MAt.nil _ _ _, by go_grown⟩
          · have hm : ME = 0 := HMM.out
            subst hm
            replace HCB : Hid (∀ W, Below w4.heap.size w4 W → Calls Try.prog 30 #[.slice ol j cl, .func (.func 31) #[] #[]] W fun e w' => e = .returned (.bool false) ∧ Below W.heap.size W w') := HCB
            go_wp2_with fail
            (go_at_call 30; refine (HCB.out _ (by first | exact Below.refl _ _ | go_grown)).mono ?_; rintro e_ w5 ⟨rfl, hb⟩)
            have hz5 := hb.size
            have hB45 : Below w4.heap.size w4 w5 := below_step (w := w4) (by first | exact Below.refl _ _ | go_grown) hb
            have r0w5 := (hB45.cell (p := ⟨_, _, none⟩) zrw4).trans r0w4
            have r1w5 := (hB45.cell (p := ⟨_, _, none⟩) zrw4).trans r1w4
            have fr0w5 := (hB45.frozen (p := ⟨_, _, none⟩) zrw4).trans fr0w4
            have fr1w5 := (hB45.frozen (p := ⟨_, _, none⟩) zrw4).trans fr1w4
            have o0w5 := (hB45.cell (p := ⟨w3.heap.size, 0, none⟩) es).trans e1
            have o1w5 := (hB45.cell (p := ⟨w3.heap.size, 1, none⟩) es).trans e2
            have zrw5 : w.heap.size + 1 + 1 < w5.heap.size := by omega
            have zow5 : w3.heap.size < w5.heap.size := by omega
            have hBw5 : Below w.heap.size w w5 := below_step hBw4 hB45
            clear hb r0w4 r1w4 fr0w4 fr1w4 e1 e2 ef m0w4 m1w4 o0w4 o1w4 of4
            go_wp2
            all_goals (refine bodyPost_ret (v := .tuple #[.agg #[.slice ol j cl, .slice oc nf cc], .int .i64 0]) (by simp (maxDischargeDepth := 9) [results, Try.results19, go_sem, *]) rfl ?_)
            exact ⟨_, rfl, ⟨_, _, rfl, (((owns_R HO.out).below hB45).set 0 _ HLN.out).set 1 _ HLN.out, ((HFC.out.below (below_step HB34.out hB45)).set 0 _ HFN.out).set 1 _ HFN.out⟩, by go_grown⟩
  · have kE2 : (E == 0) = false := by simpa using h0
    have kE3 : (E != 0) = true := by simpa using h0
    have hm : ME = E := by rw [← HME.out]; unfold moveE; rw [if_pos (by rw [HE.out]; exact h0), HE.out]
    subst hm
    rw [show mvN ME np = 0 from if_neg h0, show mvN ME nf = 0 from if_neg h0]
    clear h0
    go_enter Try.func19, Try.ntmps19
    go_wp2_with fail
    (go_at_call 13; refine (Check_any _ np nf P F _ (HM.out.below (by first | assumption | go_grown))).mono ?_; rintro e_ w1 ⟨rfl, hb⟩)
    have hsw1 := hb.size
    (try simp only [World.size_alloc, World.size_setCell] at hsw1)
    have zzw1 : w.heap.size < w1.heap.size := by omega
    have hPw1 : Below w.heap.size w w1 := below_step (w := w) (by first | exact Below.refl _ _ | go_grown) hb
    have zmw1 : w.heap.size < w1.heap.size := by omega
    have m0w1 : w1.cell? ⟨w.heap.size, 0, none⟩ = some (.slice op np cp) := (hb.cell (p := ⟨_, _, none⟩) (by simp <;> omega)).trans (by simp [go_sem])
    have m1w1 : w1.cell? ⟨w.heap.size, 1, none⟩ = some (.slice of' nf cf) := (hb.cell (p := ⟨_, _, none⟩) (by simp <;> omega)).trans (by simp [go_sem])
    have zpw1 : w.heap.size + 1 < w1.heap.size := by omega
    have p0w1 : w1.cell? ⟨w.heap.size + 1, 0, none⟩ = some (.int .i64 a) := (hb.cell (p := ⟨_, _, none⟩) (by simp <;> omega)).trans (by simp [go_sem])
    have p1w1 : w1.cell? ⟨w.heap.size + 1, 1, none⟩ = some (.int .i64 b) := (hb.cell (p := ⟨_, _, none⟩) (by simp <;> omega)).trans (by simp [go_sem])
    have p2w1 : w1.cell? ⟨w.heap.size + 1, 2, none⟩ = some (.int .i64 c) := (hb.cell (p := ⟨_, _, none⟩) (by simp <;> omega)).trans (by simp [go_sem])
    have p3w1 : w1.cell? ⟨w.heap.size + 1, 3, none⟩ = some (.int .i64 k) := (hb.cell (p := ⟨_, _, none⟩) (by simp <;> omega)).trans (by simp [go_sem])
    have zrw1 : w.heap.size + 1 + 1 < w1.heap.size := by omega
    have r0w1 : w1.cell? ⟨w.heap.size + 1 + 1, 0, none⟩ = some (.slice none 0 0) := (hb.cell (p := ⟨_, _, none⟩) (by simp <;> omega)).trans (by simp [go_sem])
    have r1w1 : w1.cell? ⟨w.heap.size + 1 + 1, 1, none⟩ = some (.slice none 0 0) := (hb.cell (p := ⟨_, _, none⟩) (by simp <;> omega)).trans (by simp [go_sem])
    have fr0w1 : w1.frozen? ⟨w.heap.size + 1 + 1, 0, none⟩ = false := (hb.frozen (p := ⟨_, _, none⟩) (by simp <;> omega)).trans (by simp [go_sem])
    have fr1w1 : w1.frozen? ⟨w.heap.size + 1 + 1, 1, none⟩ = false := (hb.frozen (p := ⟨_, _, none⟩) (by simp <;> omega)).trans (by simp [go_sem])
    have hBw1 : Below w.heap.size w w1 := below_step (w := w) (by first | assumption | go_grown) hb
    rw [HE.out]
    clear hb hsw1 hPw1
    go_wp2
    all_goals (refine bodyPost_ret (v := .tuple #[.agg #[.slice none 0 0, .slice none 0 0], .int .i64 ME]) (by simp (maxDischargeDepth := 9) [results, Try.results19, go_sem, *]) rfl ?_)
    exact ⟨_, rfl, MAt.nil _ _ _, by go_grown⟩
end Go.Proofs.Ytpjdmjmgkdgfnaa
