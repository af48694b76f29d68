/-
  right, short, Fits, by walks; what a right stock is. Conditions: none. By an AI agent.
-/
import Derived.Test.YtiddpaaihloopaaGreatDoorStockQ
namespace Go.Proofs.YtiddpaaihloopaaGreatDoor
open Go Go.ChangeShapes Go.WideShapes Go.RowKit Go.ChangeAt
set_option linter.unusedVariables false
set_option linter.unusedSimpArgs false
set_option maxRecDepth 100000

def rightB (m : Mat) (ns : Nat) (es : Nat → Sh) (nb : Nat) (eb : Nat → Br) : Bool := (fewB ns es nb eb && mfewB m) && decide (checkF m ns es nb eb = 0)
set_option maxHeartbeats 4000000 in
theorem right_any (v : Value) (ns : Nat) (es : Nat → Sh) (nb : Nat) (eb : Nat → Br) (vg vs : Value) (m : Mat) (gv : Nat → Value) (w : World) (h : StAt w v ns es nb eb) (hG : GrAt w vg m gv) (hS : SeAt w vs m) (hml : MaxLenIs w) :
    Calls Tryz.prog 6 #[v, .agg #[vg, vs]] w fun e w' => e = .returned (.bool (rightB m ns es nb eb)) ∧ Below w.heap.size w w' := by
  have HML := Lib.hid hml
  have HST := Lib.hid h
  have HG := Lib.hid hG
  have HS := Lib.hid hS
  obtain ⟨oa, ca, ob, cb, rfl⟩ := h.slices
  obtain ⟨om, cm, rfl, -, -⟩ := hG.form
  obtain ⟨ot, ct, rfl, -, -⟩ := hS.form
  unfold rightB
  obtain ⟨F1, hF1⟩ : ∃ F, (fewB ns es nb eb && mfewB m) = F := ⟨_, rfl⟩
  obtain ⟨C1, hC1⟩ : ∃ C, checkF m ns es nb eb = C := ⟨_, rfl⟩
  rw [hF1, hC1]
  have HF1 := Lib.hid hF1
  have HC := Lib.hid hC1
  clear h hml hG hS hF1 hC1
  go_enter Tryz.func6, Tryz.ntmps6
  go_wp2_with fail
  (go_at_call 22; refine (lawfew_any _ ns es nb eb _ _ m gv _ (HST.out.below (by first | assumption | go_grown)) (HG.out.below (by first | assumption | go_grown)) (HS.out.below (by first | assumption | go_grown))).mono ?_; rintro e_ w1 ⟨rfl, hb⟩)
  rw [HF1.out]
  have hsw1 := hb.size
  (try simp only [World.size_alloc, World.size_setCell] at hsw1)
  have zww1 : w.heap.size < w1.heap.size := by omega
  have zsw1 : w.heap.size < w1.heap.size := by omega
  have s0w1 : w1.cell? ⟨w.heap.size, 0, none⟩ = some (.slice oa ns ca) := (hb.cell (p := ⟨_, _, none⟩) (by simp <;> omega)).trans (by simp [go_sem])
  have s1w1 : w1.cell? ⟨w.heap.size, 1, none⟩ = some (.slice ob nb cb) := (hb.cell (p := ⟨_, _, none⟩) (by simp <;> omega)).trans (by simp [go_sem])
  have zmw1 : w.heap.size + 1 < w1.heap.size := by omega
  have m0w1 : w1.cell? ⟨w.heap.size + 1, 0, none⟩ = some (.slice om m.ng cm) := (hb.cell (p := ⟨_, _, none⟩) (by simp <;> omega)).trans (by simp [go_sem])
  have m1w1 : w1.cell? ⟨w.heap.size + 1, 1, none⟩ = some (.slice ot m.ns ct) := (hb.cell (p := ⟨_, _, none⟩) (by simp <;> omega)).trans (by simp [go_sem])
  have hBw1 : Below w.heap.size w w1 := below_step (w := w) (by first | assumption | go_grown) hb
  clear hb hsw1
  cases F1 with
  | false =>
    go_wp2
    go_returns
    exact ⟨rfl, by assumption⟩
  | true =>
    have hfm := HF1.out
    rw [Bool.and_eq_true] at hfm
    have HZ1 := Lib.hid (few_sizes hfm.1).1
    have HZ2 := Lib.hid (few_sizes hfm.1).2.1
    have HM := Lib.hid (mfew_mat hfm.2 HG.out HS.out)
    clear hfm
    go_wp2_with fail
    (go_at_call 23; refine (rcheck_any _ ns es nb eb _ m gv _ (HST.out.below (by first | assumption | go_grown)) (HM.out.below (by first | assumption | go_grown)) HZ1.out HZ2.out (HML.out.below (by first | assumption | go_grown))).mono ?_; rintro e_ w2 ⟨rfl, hb⟩)
    rw [HC.out]
    have hsw2 := hb.size
    (try simp only [World.size_alloc, World.size_setCell] at hsw2)
    have zww2 : w.heap.size < w2.heap.size := by omega
    have hPw2 : Below w1.heap.size w1 w2 := below_step (w := w1) (by first | exact Below.refl _ _ | go_grown) hb
    have zsw2 : w.heap.size < w2.heap.size := by omega
    have s0w2 : w2.cell? ⟨w.heap.size, 0, none⟩ = some (.slice oa ns ca) := (hPw2.cell (p := ⟨_, _, none⟩) zsw1).trans s0w1
    have s1w2 : w2.cell? ⟨w.heap.size, 1, none⟩ = some (.slice ob nb cb) := (hPw2.cell (p := ⟨_, _, none⟩) zsw1).trans s1w1
    have zmw2 : w.heap.size + 1 < w2.heap.size := by omega
    have m0w2 : w2.cell? ⟨w.heap.size + 1, 0, none⟩ = some (.slice om m.ng cm) := (hPw2.cell (p := ⟨_, _, none⟩) zmw1).trans m0w1
    have m1w2 : w2.cell? ⟨w.heap.size + 1, 1, none⟩ = some (.slice ot m.ns ct) := (hPw2.cell (p := ⟨_, _, none⟩) zmw1).trans m1w1
    have hBw2 : Below w.heap.size w w2 := below_step (w := w) (by first | assumption | go_grown) hb
    clear hb hsw2
    clear hPw2
    clear zsw1 zmw1 s0w1 s1w1 m0w1 m1w1
    by_cases hc0 : C1 = 0
    · subst hc0
      go_wp2
      go_returns
      exact ⟨by simp, by assumption⟩
    · have k0 : (C1 == 0) = false := by simpa using hc0
      go_wp2
      go_returns
      exact ⟨by simp [hc0], by assumption⟩

def shortB (x : Sh) (y : Br) : Bool := fewB 1 (fun _ => x) 1 (fun _ => y)
theorem shAt_one {w : World} {b : Nat} {x : Sh} (hb : b < w.heap.size) (h0 : w.cell? ⟨b, 0, none⟩ = some (.string x.id)) (h1 : w.cell? ⟨b, 1, none⟩ = some (.string x.grade)) (h2 : w.cell? ⟨b, 2, none⟩ = some (.int .i64 x.thick)) (h3 : w.cell? ⟨b, 3, none⟩ = some (.int .i64 x.len)) (h4 : w.cell? ⟨b, 4, none⟩ = some (.int .i64 x.wid)) (h5 : w.cell? ⟨b, 5, none⟩ = some (.string x.heat)) :
    ShAt w (.slice (some ⟨b, 0, none⟩) 1 1) 1 (fun _ => x) := by
  refine ⟨_, 1, rfl, by omega, by omega, fun _ => ⟨b, 0, rfl, hb, fun i j hi hj => ?_⟩⟩
  obtain rfl : i = 0 := by omega
  rcases (by omega : j = 0 ∨ j = 1 ∨ j = 2 ∨ j = 3 ∨ j = 4 ∨ j = 5) with rfl | rfl | rfl | rfl | rfl | rfl
  · exact h0
  · exact h1
  · exact h2
  · exact h3
  · exact h4
  · exact h5
theorem brAt_one {w : World} {b : Nat} {x : Br} (hb : b < w.heap.size) (h0 : w.cell? ⟨b, 0, none⟩ = some (.string x.id)) (h1 : w.cell? ⟨b, 1, none⟩ = some (.string x.sect)) (h2 : w.cell? ⟨b, 2, none⟩ = some (.string x.grade)) (h3 : w.cell? ⟨b, 3, none⟩ = some (.int .i64 x.len)) (h4 : w.cell? ⟨b, 4, none⟩ = some (.string x.heat)) :
    BrAt w (.slice (some ⟨b, 0, none⟩) 1 1) 1 (fun _ => x) := by
  refine ⟨_, 1, rfl, by omega, by omega, fun _ => ⟨b, 0, rfl, hb, fun i j hi hj => ?_⟩⟩
  obtain rfl : i = 0 := by omega
  rcases (by omega : j = 0 ∨ j = 1 ∨ j = 2 ∨ j = 3 ∨ j = 4) with rfl | rfl | rfl | rfl | rfl
  · exact h0
  · exact h1
  · exact h2
  · exact h3
  · exact h4
set_option maxHeartbeats 4000000 in
theorem short_any (x : Sh) (y : Br) (w : World) :
    Calls Tryz.prog 7 #[x.val, y.val] w fun e w' => e = .returned (.bool (shortB x y)) ∧ Below w.heap.size w w' := by
  unfold shortB
  obtain ⟨R, hR⟩ : ∃ R, fewB 1 (fun _ => x) 1 (fun _ => y) = R := ⟨_, rfl⟩
  have HR := Lib.hid hR
  rw [hR]
  clear hR
  obtain ⟨x0, x1, x2, x3, x4, x5⟩ := x
  obtain ⟨y0, y1, y2, y3, y4⟩ := y
  show Calls Tryz.prog 7 #[.agg #[.string x0, .string x1, .int .i64 x2, .int .i64 x3, .int .i64 x4, .string x5], .agg #[.string y0, .string y1, .string y2, .int .i64 y3, .string y4]] w _
  go_enter Tryz.func7, Tryz.ntmps7
  go_wp2_with fail
  (go_at_call 24; refine (few_any _ 1 (fun _ => ⟨x0, x1, x2, x3, x4, x5⟩) 1 (fun _ => ⟨y0, y1, y2, y3, y4⟩) _ ⟨_, _, rfl, shAt_one ?_ ?_ ?_ ?_ ?_ ?_ ?_, brAt_one ?_ ?_ ?_ ?_ ?_ ?_⟩).mono ?_)
  · simp only [World.size_alloc]; omega
  · simp [go_sem]
  · simp [go_sem]
  · simp [go_sem]
  · simp [go_sem]
  · simp [go_sem]
  · simp [go_sem]
  · simp only [World.size_alloc]; omega
  · simp [go_sem]
  · simp [go_sem]
  · simp [go_sem]
  · simp [go_sem]
  · simp [go_sem]
  rintro e_ w1 ⟨rfl, hb⟩
  rw [HR.out]
  have hBw1 : Below w.heap.size w w1 := below_step (w := w) (by first | assumption | go_grown) hb
  clear hb
  go_wp2
  go_returns
  exact ⟨rfl, by assumption⟩

def fitsB (x : Sh) (l d : Int) : Bool := (decide (l ≤ x.len) && decide (d ≤ x.wid)) || (decide (d ≤ x.len) && decide (l ≤ x.wid))
set_option maxHeartbeats 4000000 in
theorem fits_any (x : Sh) (l d : Int) (w : World) :
    Calls Tryz.prog 42 #[x.val, .int .i64 l, .int .i64 d] w fun e w' => e = .returned (.bool (fitsB x l d)) ∧ Below w.heap.size w w' := by
  obtain ⟨id', grade', thick', len', wid', heat'⟩ := x
  unfold fitsB
  dsimp only
  show Calls Tryz.prog 42 #[.agg #[.string id', .string grade', .int .i64 thick', .int .i64 len', .int .i64 wid', .string heat'], .int .i64 l, .int .i64 d] w _
  by_cases h1 : l ≤ len' <;> by_cases h2 : d ≤ wid' <;> by_cases h3 : d ≤ len' <;> by_cases h4 : l ≤ wid' <;>
  first
  | (exfalso; omega)
  | (simp only [h1, h2, h3, h4, decide_true, decide_false, Bool.and_true, Bool.and_false, Bool.true_or, Bool.or_true, Bool.or_false, Bool.false_and, Bool.true_and]
     go_enter Tryz.func42, Tryz.ntmps42
     go_wp2
     go_returns
     exact ⟨rfl, by go_grown⟩)

/-- what a right stock is -/
structure Right (m : Mat) (ns : Nat) (es : Nat → Sh) (nb : Nat) (eb : Nat → Br) : Prop where
  few : fewB ns es nb eb = true
  mfew : mfewB m = true
  n1 : ns ≤ 128
  n2 : nb ≤ 128
  s : ∀ j, j < ns → sheetE m (es j) = 0
  b : ∀ j, j < nb → barE m (eb j) = 0
  asc : AscB Sh.id es ns
  bsc : AscB Br.id eb nb
theorem right_is {m : Mat} {ns : Nat} {es : Nat → Sh} {nb : Nat} {eb : Nat → Br} (h : rightB m ns es nb eb = true) : Right m ns es nb eb := by
  unfold rightB at h
  simp only [Bool.and_eq_true, decide_eq_true_eq] at h
  obtain ⟨⟨h1, h2⟩, h3⟩ := h
  unfold checkF at h3
  split at h3
  · cases h3
  · rename_i hn
    split at h3
    · rename_i hc; exact absurd h3 hc
    · rename_i hc
      have hc := Decidable.not_not.1 hc
      exact ⟨h1, h2, by omega, by omega, (asc_of_chk hc).1, (asc_of_chk h3).1, (asc_of_chk hc).2, (asc_of_chk h3).2⟩
theorem check_of {m : Mat} {ns : Nat} {es : Nat → Sh} {nb : Nat} {eb : Nat → Br} (n1 : ns ≤ 128) (n2 : nb ≤ 128) (s : ∀ j, j < ns → sheetE m (es j) = 0) (b : ∀ j, j < nb → barE m (eb j) = 0) (asc : AscB Sh.id es ns) (bsc : AscB Br.id eb nb) : checkF m ns es nb eb = 0 := by
  unfold checkF
  rw [if_neg (by omega), if_neg (by rw [chk_of_asc s asc]; decide), chk_of_asc b bsc]
theorem short_sizes {x : Sh} {y : Br} (h : shortB x y = true) : (x.id.size ≤ 2147483648 ∧ x.heat.size ≤ 2147483648) ∧ (y.id.size ≤ 2147483648 ∧ y.heat.size ≤ 2147483648) :=
  ⟨(few_sizes h).1 0 (by decide), (few_sizes h).2.1 0 (by decide)⟩
section
variable {α : Type} {f : α → ByteArray} {e : Nat → α} {n : Nat} {x y : α}
theorem addE_zero (h : addE f e n x = 0) : foundB f e n (f x) = false ∧ n < 128 := by
  unfold addE at h
  split at h
  · cases h
  · rename_i h1
    split at h
    · cases h
    · exact ⟨by simpa using h1, by omega⟩
/-- what an added element brings with it -/
theorem add_facts (ha : AscB f e n) (h : addE f e n x = 0) (E : α → Int) (hs : ∀ j, j < n → E (e j) = 0) (hx : E x = 0) (P : α → Prop) (hp : ∀ j, j < n → P (e j)) (px : P x) :
    n + 1 ≤ 128 ∧ AscB f (insF e (placeI f e n (f x)) x) (n + 1) ∧ (∀ j, j < n + 1 → E (insF e (placeI f e n (f x)) x j) = 0) ∧ (∀ j, j < n + 1 → P (insF e (placeI f e n (f x)) x j)) ∧
    foundB f (insF e (placeI f e n (f x)) x) (n + 1) (f x) = true ∧ placeI f (insF e (placeI f e n (f x)) x) (n + 1) (f x) = placeI f e n (f x) := by
  obtain ⟨h1, h2⟩ := addE_zero h
  have hpl := place_placeF ha h1
  have hasc : AscB f (insF e (placeI f e n (f x)) x) (n + 1) := asc_ins (ltR_trans f) ha hpl
  have hle : placeI f e n (f x) ≤ n := placeI_le
  have hins : ∀ Q : α → Prop, (∀ j, j < n → Q (e j)) → Q x → ∀ j, j < n + 1 → Q (insF e (placeI f e n (f x)) x j) := fun Q hq qx j hj => by
    rcases Nat.lt_trichotomy j (placeI f e n (f x)) with hl | hl | hl
    · rw [insF_lt e x hl]; exact hq j (by omega)
    · rw [hl, insF_eq]; exact qx
    · rw [insF_gt e x hl]; exact hq (j - 1) (by omega)
  refine ⟨by omega, hasc, hins (fun y => E y = 0) hs hx, hins P hp px, (found_iff hasc).2 ⟨placeI f e n (f x), by omega, by rw [insF_eq]⟩, ?_⟩
  have := found_at (k := placeI f e n (f x)) hasc (by omega)
  rwa [insF_eq] at this
end
end Go.Proofs.YtiddpaaihloopaaGreatDoor
