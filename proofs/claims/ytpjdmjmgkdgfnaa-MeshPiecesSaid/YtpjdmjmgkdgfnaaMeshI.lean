/-
  The reference's Volume6, by walks. Conditions: none. By an AI agent.
-/
import Derived.Test.YtpjdmjmgkdgfnaaMeshH
namespace Go.Proofs.Ytpjdmjmgkdgfnaa
open Go Go.RowKit
set_option linter.unusedVariables false
set_option linter.unusedSimpArgs false
set_option maxRecDepth 100000

theorem wdF_0 (k : Nat) : wdF 0 k = 0 := by simp [wdF, dgF]
def vol6 (np : Nat) (P : Nat → V) (nf : Nat) (F : Nat → V) : Int := if checkM np P nf F = 0 then volF P F nf else 0
theorem Good.ix {np : Nat} {P : Nat → V} {nf : Nat} {F : Nat → V} (h : Good np P nf F) : ∀ j, j < nf → idxB np (F j) = true := fun j hj => decide_eq_true (h.idx j hj)

set_option maxHeartbeats 2000000 in
theorem rVolume6_any (v : Value) (np nf : Nat) (P F : Nat → V) (w : World) (h : MAt w v np P nf F) :
    Calls Try.prog 16 #[v] w fun e w' => e = .returned (.tuple #[.agg #[.bool (decide (vol6 np P nf F < 0)), .int .u64 ((wdF (vol6 np P nf F)) 0), .int .u64 ((wdF (vol6 np P nf F)) 1), .int .u64 ((wdF (vol6 np P nf F)) 2), .int .u64 ((wdF (vol6 np P nf F)) 3)], .int .i64 (checkM np P nf F)]) ∧ Below w.heap.size w w' := by
  have HM := Lib.hid h
  obtain ⟨op, cp, of', cf, he⟩ := h.slices
  cases he
  obtain ⟨x, hx⟩ : ∃ x, (.slice op np cp : Value) = x := ⟨_, rfl⟩
  obtain ⟨y, hy⟩ : ∃ y, (.slice of' nf cf : Value) = y := ⟨_, rfl⟩
  rw [hx, hy] at HM ⊢
  obtain ⟨E, hE⟩ : ∃ E, checkM np P nf F = E := ⟨_, rfl⟩
  obtain ⟨S, hS⟩ : ∃ b, decide (vol6 np P nf F < 0) = b := ⟨_, rfl⟩
  obtain ⟨X, hX⟩ : ∃ X, wdF (vol6 np P nf F) = X := ⟨_, rfl⟩
  have HE := Lib.hid hE
  by_cases h0 : E = 0
  · subst h0
    have HG : Hid (Good np P nf F) := check_iff.1 HE.out
    have hv : vol6 np P nf F = volF P F nf := if_pos hE
    rw [hE, hS, hX]
    rw [hv] at hS hX
    have HS := Lib.hid hS
    have HX := Lib.hid hX
    clear hE hS hX hv hx hy h
    go_enter Try.func16, Try.ntmps16
    go_wp2_with fail
    (go_at_call 14; refine (rCheck_any _ np nf P F _ (HM.out.below (by first | assumption | go_grown))).mono ?_; rintro e_ w1 ⟨rfl, hb⟩)
    have hsw1 := hb.size
    (try simp only [World.size_alloc, World.size_setCell] at hsw1)
    have zzw1 : w.heap.size < w1.heap.size := by omega
    have hPw1 : Below w.heap.size w w1 := below_step (w := w) (by first | exact Below.refl _ _ | go_grown) hb
    have zmw1 : w.heap.size < w1.heap.size := by omega
    have m0w1 : w1.cell? ⟨w.heap.size, 0, none⟩ = some (x) := (hb.cell (p := ⟨_, _, none⟩) (by simp <;> omega)).trans (by simp [go_sem])
    have m1w1 : w1.cell? ⟨w.heap.size, 1, none⟩ = some (y) := (hb.cell (p := ⟨_, _, none⟩) (by simp <;> omega)).trans (by simp [go_sem])
    have zrw1 : w.heap.size + 1 < w1.heap.size := by omega
    have r0w1 : w1.cell? ⟨w.heap.size + 1, 0, none⟩ = some (.bool false) := (hb.cell (p := ⟨_, _, none⟩) (by simp <;> omega)).trans (by simp [go_sem])
    have r1w1 : w1.cell? ⟨w.heap.size + 1, 1, none⟩ = some (.int .u64 0) := (hb.cell (p := ⟨_, _, none⟩) (by simp <;> omega)).trans (by simp [go_sem])
    have r2w1 : w1.cell? ⟨w.heap.size + 1, 2, none⟩ = some (.int .u64 0) := (hb.cell (p := ⟨_, _, none⟩) (by simp <;> omega)).trans (by simp [go_sem])
    have r3w1 : w1.cell? ⟨w.heap.size + 1, 3, none⟩ = some (.int .u64 0) := (hb.cell (p := ⟨_, _, none⟩) (by simp <;> omega)).trans (by simp [go_sem])
    have r4w1 : w1.cell? ⟨w.heap.size + 1, 4, none⟩ = some (.int .u64 0) := (hb.cell (p := ⟨_, _, none⟩) (by simp <;> omega)).trans (by simp [go_sem])
    have fr0w1 : w1.frozen? ⟨w.heap.size + 1, 0, none⟩ = false := (hb.frozen (p := ⟨_, _, none⟩) (by simp <;> omega)).trans (by simp [go_sem])
    have fr1w1 : w1.frozen? ⟨w.heap.size + 1, 1, none⟩ = false := (hb.frozen (p := ⟨_, _, none⟩) (by simp <;> omega)).trans (by simp [go_sem])
    have fr2w1 : w1.frozen? ⟨w.heap.size + 1, 2, none⟩ = false := (hb.frozen (p := ⟨_, _, none⟩) (by simp <;> omega)).trans (by simp [go_sem])
    have fr3w1 : w1.frozen? ⟨w.heap.size + 1, 3, none⟩ = false := (hb.frozen (p := ⟨_, _, none⟩) (by simp <;> omega)).trans (by simp [go_sem])
    have fr4w1 : w1.frozen? ⟨w.heap.size + 1, 4, none⟩ = false := (hb.frozen (p := ⟨_, _, none⟩) (by simp <;> omega)).trans (by simp [go_sem])
    have hBw1 : Below w.heap.size w w1 := below_step (w := w) (by first | assumption | go_grown) hb
    rw [HE.out]
    clear hb hsw1 hPw1
    go_wp2_with fail
    (go_at_call 38; refine (rvolume_any _ np nf P F _ (HM.out.below (by first | assumption | go_grown)) HG.out.n2 HG.out.ins HG.out.ix).mono ?_; rintro e_ w2 ⟨rfl, hb⟩)
    have hsw2 := hb.size
    (try simp only [World.size_alloc, World.size_setCell] at hsw2)
    have zzw2 : w.heap.size < w2.heap.size := by omega
    have hPw2 : Below w1.heap.size w1 w2 := below_step (w := w1) (by first | exact Below.refl _ _ | go_grown) hb
    have zmw2 : w.heap.size < w2.heap.size := by omega
    have m0w2 : w2.cell? ⟨w.heap.size, 0, none⟩ = some (x) := (hPw2.cell (p := ⟨_, _, none⟩) zmw1).trans m0w1
    have m1w2 : w2.cell? ⟨w.heap.size, 1, none⟩ = some (y) := (hPw2.cell (p := ⟨_, _, none⟩) zmw1).trans m1w1
    have zrw2 : w.heap.size + 1 < w2.heap.size := by omega
    have r0w2 : w2.cell? ⟨w.heap.size + 1, 0, none⟩ = some (.bool false) := (hPw2.cell (p := ⟨_, _, none⟩) zrw1).trans r0w1
    have r1w2 : w2.cell? ⟨w.heap.size + 1, 1, none⟩ = some (.int .u64 0) := (hPw2.cell (p := ⟨_, _, none⟩) zrw1).trans r1w1
    have r2w2 : w2.cell? ⟨w.heap.size + 1, 2, none⟩ = some (.int .u64 0) := (hPw2.cell (p := ⟨_, _, none⟩) zrw1).trans r2w1
    have r3w2 : w2.cell? ⟨w.heap.size + 1, 3, none⟩ = some (.int .u64 0) := (hPw2.cell (p := ⟨_, _, none⟩) zrw1).trans r3w1
    have r4w2 : w2.cell? ⟨w.heap.size + 1, 4, none⟩ = some (.int .u64 0) := (hPw2.cell (p := ⟨_, _, none⟩) zrw1).trans r4w1
    have fr0w2 : w2.frozen? ⟨w.heap.size + 1, 0, none⟩ = false := (hPw2.frozen (p := ⟨_, _, none⟩) zrw1).trans fr0w1
    have fr1w2 : w2.frozen? ⟨w.heap.size + 1, 1, none⟩ = false := (hPw2.frozen (p := ⟨_, _, none⟩) zrw1).trans fr1w1
    have fr2w2 : w2.frozen? ⟨w.heap.size + 1, 2, none⟩ = false := (hPw2.frozen (p := ⟨_, _, none⟩) zrw1).trans fr2w1
    have fr3w2 : w2.frozen? ⟨w.heap.size + 1, 3, none⟩ = false := (hPw2.frozen (p := ⟨_, _, none⟩) zrw1).trans fr3w1
    have fr4w2 : w2.frozen? ⟨w.heap.size + 1, 4, none⟩ = false := (hPw2.frozen (p := ⟨_, _, none⟩) zrw1).trans fr4w1
    have hBw2 : Below w.heap.size w w2 := below_step (w := w) (by first | assumption | go_grown) hb
    rw [HS.out, HX.out]
    clear hb hsw2 hPw2
    clear zmw1 zrw1 m0w1 m1w1 r0w1 r1w1 r2w1 r3w1 r4w1 fr0w1 fr1w1 fr2w1 fr3w1 fr4w1
    go_wp2
    all_goals (refine bodyPost_ret (v := .tuple #[.agg #[.bool S, .int .u64 (X 0), .int .u64 (X 1), .int .u64 (X 2), .int .u64 (X 3)], .int .i64 0]) (by simp (maxDischargeDepth := 9) [results, Try.results16, go_sem, *]) rfl ?_)
    exact ⟨rfl, by go_grown⟩
  · have hv : vol6 np P nf F = 0 := if_neg (by rw [hE]; exact h0)
    have kE : decide (E = 0) = false := decide_eq_false h0
    have kE2 : (E == 0) = false := by simpa using h0
    have kE3 : (E != 0) = true := by simpa using h0
    rw [hv, hE, show decide ((0 : Int) < 0) = false from rfl, wdF_0, wdF_0, wdF_0, wdF_0]
    clear hE hS hX hv hx hy h h0
    go_enter Try.func16, Try.ntmps16
    go_wp2_with fail
    (go_at_call 14; refine (rCheck_any _ np nf P F _ (HM.out.below (by first | assumption | go_grown))).mono ?_; rintro e_ w1 ⟨rfl, hb⟩)
    have hsw1 := hb.size
    (try simp only [World.size_alloc, World.size_setCell] at hsw1)
    have zzw1 : w.heap.size < w1.heap.size := by omega
    have hPw1 : Below w.heap.size w w1 := below_step (w := w) (by first | exact Below.refl _ _ | go_grown) hb
    have zmw1 : w.heap.size < w1.heap.size := by omega
    have m0w1 : w1.cell? ⟨w.heap.size, 0, none⟩ = some (x) := (hb.cell (p := ⟨_, _, none⟩) (by simp <;> omega)).trans (by simp [go_sem])
    have m1w1 : w1.cell? ⟨w.heap.size, 1, none⟩ = some (y) := (hb.cell (p := ⟨_, _, none⟩) (by simp <;> omega)).trans (by simp [go_sem])
    have zrw1 : w.heap.size + 1 < w1.heap.size := by omega
    have r0w1 : w1.cell? ⟨w.heap.size + 1, 0, none⟩ = some (.bool false) := (hb.cell (p := ⟨_, _, none⟩) (by simp <;> omega)).trans (by simp [go_sem])
    have r1w1 : w1.cell? ⟨w.heap.size + 1, 1, none⟩ = some (.int .u64 0) := (hb.cell (p := ⟨_, _, none⟩) (by simp <;> omega)).trans (by simp [go_sem])
    have r2w1 : w1.cell? ⟨w.heap.size + 1, 2, none⟩ = some (.int .u64 0) := (hb.cell (p := ⟨_, _, none⟩) (by simp <;> omega)).trans (by simp [go_sem])
    have r3w1 : w1.cell? ⟨w.heap.size + 1, 3, none⟩ = some (.int .u64 0) := (hb.cell (p := ⟨_, _, none⟩) (by simp <;> omega)).trans (by simp [go_sem])
    have r4w1 : w1.cell? ⟨w.heap.size + 1, 4, none⟩ = some (.int .u64 0) := (hb.cell (p := ⟨_, _, none⟩) (by simp <;> omega)).trans (by simp [go_sem])
    have fr0w1 : w1.frozen? ⟨w.heap.size + 1, 0, none⟩ = false := (hb.frozen (p := ⟨_, _, none⟩) (by simp <;> omega)).trans (by simp [go_sem])
    have fr1w1 : w1.frozen? ⟨w.heap.size + 1, 1, none⟩ = false := (hb.frozen (p := ⟨_, _, none⟩) (by simp <;> omega)).trans (by simp [go_sem])
    have fr2w1 : w1.frozen? ⟨w.heap.size + 1, 2, none⟩ = false := (hb.frozen (p := ⟨_, _, none⟩) (by simp <;> omega)).trans (by simp [go_sem])
    have fr3w1 : w1.frozen? ⟨w.heap.size + 1, 3, none⟩ = false := (hb.frozen (p := ⟨_, _, none⟩) (by simp <;> omega)).trans (by simp [go_sem])
    have fr4w1 : w1.frozen? ⟨w.heap.size + 1, 4, none⟩ = false := (hb.frozen (p := ⟨_, _, none⟩) (by simp <;> omega)).trans (by simp [go_sem])
    have hBw1 : Below w.heap.size w w1 := below_step (w := w) (by first | assumption | go_grown) hb
    rw [HE.out]
    clear hb hsw1 hPw1
    go_wp2
    all_goals (refine bodyPost_ret (v := .tuple #[.agg #[.bool false, .int .u64 0, .int .u64 0, .int .u64 0, .int .u64 0], .int .i64 E]) (by simp (maxDischargeDepth := 9) [results, Try.results16, go_sem, *]) rfl ?_)
    exact ⟨rfl, by go_grown⟩
end Go.Proofs.Ytpjdmjmgkdgfnaa
