/-
  The examples of the chapter: their values, and what each call answers. Conditions: none. By an AI agent.
-/
import Derived.Test.YtiddpaaihloopaaGreatDoorSameB
import Derived.Test.YtiddpaaihloopaaGreatDoorStB
import Derived.Test.YtiddpaaihloopaaGreatDoorPick
namespace Go.Proofs.YtiddpaaihloopaaGreatDoor
open Go Go.ChangeShapes Go.WideShapes Go.RowKit Go.ChangeAt
set_option linter.unusedVariables false
set_option linter.unusedSimpArgs false
set_option maxRecDepth 100000
def stM : Mat where
  ng := 1
  nm := fun _ => ⟨#[65]⟩
  de := fun _ => 7850
  yi := fun _ => 235
  gn := fun _ => 3
  gf := fun _ j => if j = 0 then 8 else if j = 1 then 10 else 12
  ns := 1
  sn := fun _ => ⟨#[72, 80]⟩
  sa := fun _ => 2500
  sh := fun _ => 200
  ss := fun _ => 12000
def shA : Sh := ⟨⟨#[80, 49]⟩, ⟨#[65]⟩, 10, 6000, 2000, ⟨#[72]⟩⟩
def shA9 : Sh := ⟨⟨#[80, 49]⟩, ⟨#[65]⟩, 9, 6000, 2000, ⟨#[72]⟩⟩
def shB : Sh := ⟨⟨#[80, 50]⟩, ⟨#[65]⟩, 10, 3000, 5000, ⟨#[72]⟩⟩
def brB : Br := ⟨⟨#[66]⟩, ⟨#[72, 80]⟩, ⟨#[65]⟩, 6000, ⟨#[72]⟩⟩
def e0 : Nat → Sh := fun _ => Sh.none
def b0 : Nat → Br := fun _ => Br.none
def e1 : Nat → Sh := insF e0 (placeI Sh.id e0 0 shB.id) shB
def e2 : Nat → Sh := insF e1 (placeI Sh.id e1 1 shA.id) shA
def b1 : Nat → Br := insF b0 (placeI Br.id b0 0 brB.id) brB
def e3 : Nat → Sh := delF e2 (placeI Sh.id e2 2 ⟨#[80, 49]⟩)
theorem asc0 : AscB Sh.id e0 0 := fun i j h1 h2 => by omega
theorem asc1 : AscB Sh.id e1 1 := fun i j h1 h2 => by omega
theorem bsc0 : AscB Br.id b0 0 := fun i j h1 h2 => by omega
theorem bsc1 : AscB Br.id b1 1 := fun i j h1 h2 => by omega
theorem asc2 : AscB Sh.id e2 2 := fun i j h1 h2 => by
  have hi : i = 0 := by omega
  have hj : j = 1 := by omega
  subst hi hj
  decide +kernel
theorem StAt.slices {w : World} {v : Value} {ns nb : Nat} {es : Nat → Sh} {eb : Nat → Br} (h : StAt w v ns es nb eb) : ∃ oa ca ob cb, v = .agg #[.slice oa ns ca, .slice ob nb cb] := by
  obtain ⟨va, vb, rfl, h1, h2⟩ := h
  obtain ⟨oa, ca, rfl, -⟩ := h1.form
  obtain ⟨ob, cb, rfl, -⟩ := h2.form
  exact ⟨_, _, _, _, rfl⟩

theorem aw1 (v vm : Value) (gv : Nat → Value) (w : World) (h : StAt w v 0 e0 0 b0) (hm : MatAt w vm stM gv) (hml : MaxLenIs w) :
    Calls Tryz.prog 9 #[v, vm, shB.val] w fun e w' => ∃ oa ca ob cb, e = .returned (.tuple #[.agg #[.slice oa 1 ca, .slice ob 0 cb], .int .i64 0]) ∧ StAt w' (.agg #[.slice oa 1 ca, .slice ob 0 cb]) 1 e1 0 b0 ∧ StNew w.heap.size (.agg #[.slice oa 1 ca, .slice ob 0 cb]) ∧ Below w.heap.size w w' := by
  refine (AddSheet_any v 0 e0 0 b0 vm stM gv shB w h hm (by decide) (by decide) asc0 (by decide +kernel) (by decide +kernel) hml).mono ?_
  rintro e w' ⟨v', rfl, hst, hnw, hb⟩
  have hval : addS (sheetE stM shB) (addE Sh.id e0 0 shB) = 0 := by decide +kernel
  rw [hval] at hst ⊢
  obtain ⟨oa, ca, ob, cb, rfl⟩ := hst.slices
  exact ⟨oa, ca, ob, cb, rfl, hst, hnw, hb⟩

theorem aw2 (v vm : Value) (gv : Nat → Value) (w : World) (h : StAt w v 1 e1 0 b0) (hm : MatAt w vm stM gv) (hml : MaxLenIs w) :
    Calls Tryz.prog 9 #[v, vm, shA.val] w fun e w' => ∃ oa ca ob cb, e = .returned (.tuple #[.agg #[.slice oa 2 ca, .slice ob 0 cb], .int .i64 0]) ∧ StAt w' (.agg #[.slice oa 2 ca, .slice ob 0 cb]) 2 e2 0 b0 ∧ StNew w.heap.size (.agg #[.slice oa 2 ca, .slice ob 0 cb]) ∧ Below w.heap.size w w' := by
  refine (AddSheet_any v 1 e1 0 b0 vm stM gv shA w h hm (by decide) (by decide) asc1 (by decide +kernel) (by decide +kernel) hml).mono ?_
  rintro e w' ⟨v', rfl, hst, hnw, hb⟩
  have hval : addS (sheetE stM shA) (addE Sh.id e1 1 shA) = 0 := by decide +kernel
  rw [hval] at hst ⊢
  obtain ⟨oa, ca, ob, cb, rfl⟩ := hst.slices
  exact ⟨oa, ca, ob, cb, rfl, hst, hnw, hb⟩

theorem aw3 (v vm : Value) (gv : Nat → Value) (w : World) (h : StAt w v 2 e2 0 b0) (hm : MatAt w vm stM gv) (hml : MaxLenIs w) :
    Calls Tryz.prog 11 #[v, vm, brB.val] w fun e w' => ∃ oa ca ob cb, e = .returned (.tuple #[.agg #[.slice oa 2 ca, .slice ob 1 cb], .int .i64 0]) ∧ StAt w' (.agg #[.slice oa 2 ca, .slice ob 1 cb]) 2 e2 1 b1 ∧ StNew w.heap.size (.agg #[.slice oa 2 ca, .slice ob 1 cb]) ∧ Below w.heap.size w w' := by
  refine (AddBar_any v 2 e2 0 b0 vm stM gv brB w h hm (by decide) (by decide) bsc0 (by decide +kernel) (by decide +kernel) hml).mono ?_
  rintro e w' ⟨v', rfl, hst, hnw, hb⟩
  have hval : addS (barE stM brB) (addE Br.id b0 0 brB) = 0 := by decide +kernel
  rw [hval] at hst ⊢
  obtain ⟨oa, ca, ob, cb, rfl⟩ := hst.slices
  exact ⟨oa, ca, ob, cb, rfl, hst, hnw, hb⟩

theorem aw4 (v vm : Value) (gv : Nat → Value) (w : World) (h : StAt w v 1 e1 0 b0) (hm : MatAt w vm stM gv) (hml : MaxLenIs w) :
    Calls Tryz.prog 9 #[v, vm, shA9.val] w fun e w' => ∃ oa ca ob cb, e = .returned (.tuple #[.agg #[.slice oa 0 ca, .slice ob 0 cb], .int .i64 23]) ∧ StAt w' (.agg #[.slice oa 0 ca, .slice ob 0 cb]) 0 (insF e1 (placeI Sh.id e1 1 shA9.id) shA9) 0 b0 ∧ StNew w.heap.size (.agg #[.slice oa 0 ca, .slice ob 0 cb]) ∧ Below w.heap.size w w' := by
  refine (AddSheet_any v 1 e1 0 b0 vm stM gv shA9 w h hm (by decide) (by decide) asc1 (by decide +kernel) (by decide +kernel) hml).mono ?_
  rintro e w' ⟨v', rfl, hst, hnw, hb⟩
  have hval : addS (sheetE stM shA9) (addE Sh.id e1 1 shA9) = 23 := by decide +kernel
  rw [hval] at hst ⊢
  obtain ⟨oa, ca, ob, cb, rfl⟩ := hst.slices
  exact ⟨oa, ca, ob, cb, rfl, hst, hnw, hb⟩

theorem aw5 (v : Value) (w : World) (h : StAt w v 2 e2 1 b1) :
    Calls Tryz.prog 14 #[v, .string ⟨#[80, 49]⟩] w fun e w' => ∃ oa ca ob cb, e = .returned (.tuple #[.agg #[.slice oa 1 ca, .slice ob 1 cb], shA.val, .int .i64 0]) ∧ StAt w' (.agg #[.slice oa 1 ca, .slice ob 1 cb]) 1 e3 1 b1 ∧ Below w.heap.size w w' := by
  refine (TakeSheet_any v 2 e2 1 b1 ⟨#[80, 49]⟩ w h (by decide) (by decide) asc2).mono ?_
  rintro e w' ⟨v', rfl, hst, hb⟩
  have hval : takeE Sh.id e2 2 ⟨#[80, 49]⟩ = 0 := by decide +kernel
  have hx : takeV Sh.id Sh.none e2 2 ⟨#[80, 49]⟩ = shA := by
    have hf : foundB Sh.id e2 2 ⟨#[80, 49]⟩ = true := by decide +kernel
    have hp : placeI Sh.id e2 2 ⟨#[80, 49]⟩ = 0 := by decide +kernel
    have hp1 : placeI Sh.id e1 1 shA.id = 0 := by decide +kernel
    unfold takeV
    rw [if_pos hf, hp]
    unfold e2
    rw [hp1]
    rfl
  rw [hval] at hst ⊢
  rw [hx]
  obtain ⟨oa, ca, ob, cb, rfl⟩ := hst.slices
  exact ⟨oa, ca, ob, cb, rfl, hst, hb⟩
theorem aw6 (v : Value) (w : World) (h : StAt w v 2 e2 1 b1) :
    Calls Tryz.prog 16 #[v, .string ⟨#[80, 49]⟩] w fun e w' => ∃ oa ca ob cb, e = .returned (.tuple #[.agg #[.slice oa 0 ca, .slice ob 0 cb], Br.none.val, .int .i64 8]) ∧ Below w.heap.size w w' := by
  refine (TakeBar_any v 2 e2 1 b1 ⟨#[80, 49]⟩ w h (by decide) (by decide) bsc1).mono ?_
  rintro e w' ⟨v', rfl, hst, hb⟩
  have hval : takeE Br.id b1 1 ⟨#[80, 49]⟩ = 8 := by decide +kernel
  have hx : takeV Br.id Br.none b1 1 ⟨#[80, 49]⟩ = Br.none := by
    have hf : foundB Br.id b1 1 ⟨#[80, 49]⟩ = false := by decide +kernel
    unfold takeV
    rw [if_neg (by rw [hf]; decide)]
  rw [hval] at hst ⊢
  rw [hx]
  obtain ⟨oa, ca, ob, cb, rfl⟩ := hst.slices
  exact ⟨oa, ca, ob, cb, rfl, hb⟩
theorem aw7 (v : Value) (w : World) (h : StAt w v 2 e2 1 b1) :
    Calls Tryz.prog 18 #[v, .string ⟨#[65]⟩, .int .i64 10, .int .i64 4000, .int .i64 2500] w fun e w' => e = .returned (.tuple #[.string ⟨#[80, 50]⟩, .bool true]) ∧ Below w.heap.size w w' := by
  have h1 : (pickFS ⟨#[65]⟩ 10 4000 2500 e2 2).1 = ⟨#[80, 50]⟩ := by decide +kernel
  have h2 : (pickFS ⟨#[65]⟩ 10 4000 2500 e2 2).2 = true := by decide +kernel
  have := PickSheet_any v 2 e2 1 b1 ⟨#[65]⟩ 10 4000 2500 w h (fun i hi => by
    rcases (by omega : i = 0 ∨ i = 1) with rfl | rfl <;> decide +kernel)
  rw [h1, h2] at this
  exact this
theorem aw8 (v : Value) (w : World) (h : StAt w v 2 e2 1 b1) :
    Calls Tryz.prog 20 #[v, .string ⟨#[72, 80]⟩, .string ⟨#[65]⟩, .int .i64 5000] w fun e w' => e = .returned (.tuple #[.string ⟨#[66]⟩, .bool true]) ∧ Below w.heap.size w w' := by
  have h1 : (pickFB ⟨#[72, 80]⟩ ⟨#[65]⟩ 5000 b1 1).1 = ⟨#[66]⟩ := by decide +kernel
  have h2 : (pickFB ⟨#[72, 80]⟩ ⟨#[65]⟩ 5000 b1 1).2 = true := by decide +kernel
  have := PickBar_any v 2 e2 1 b1 ⟨#[72, 80]⟩ ⟨#[65]⟩ 5000 w h (fun i hi => by
    have : i = 0 := by omega
    subst this
    decide +kernel)
  rw [h1, h2] at this
  exact this
theorem aw9 (v vm : Value) (gv : Nat → Value) (w : World) (h : StAt w v 2 e2 1 b1) (hm : MatAt w vm stM gv) (hml : MaxLenIs w) :
    Calls Tryz.prog 26 #[v, vm] w fun e w' => e = .returned (.int .i64 0) ∧ Below w.heap.size w w' := by
  have h1 : checkF stM 2 e2 1 b1 = 0 := by decide +kernel
  have := check_any v 2 e2 1 b1 vm stM gv w h hm (fun i hi => by
    rcases (by omega : i = 0 ∨ i = 1) with rfl | rfl <;> decide +kernel) (fun i hi => by
    have : i = 0 := by omega
    subst this
    decide +kernel) hml
  rw [h1] at this
  exact this
theorem aw10 (v : Value) (w : World) (h : StAt w v 2 e2 1 b1) :
    Calls Tryz.prog 27 #[v, v] w fun e w' => e = .returned (.bool true) ∧ Below w.heap.size w w' := by
  have h1 : sameS 2 e2 1 b1 2 e2 1 b1 = true := by
    unfold sameS
    rw [(sameB_iff (fun x y => Sh.eqB_iff)).2 ⟨rfl, fun i hi => rfl⟩, (sameB_iff (fun x y => Br.eqB_iff)).2 ⟨rfl, fun i hi => rfl⟩]
    rfl
  have := same_any v v 2 e2 1 b1 2 e2 1 b1 w h h
  rw [h1] at this
  exact this
theorem aw11 (v u : Value) (w : World) (h : StAt w v 2 e2 1 b1) (h' : StAt w u 1 e3 1 b1) :
    Calls Tryz.prog 27 #[v, u] w fun e w' => e = .returned (.bool false) ∧ Below w.heap.size w w' := by
  have h1 : sameS 2 e2 1 b1 1 e3 1 b1 = false := by decide +kernel
  have := same_any v u 2 e2 1 b1 1 e3 1 b1 w h h'
  rw [h1] at this
  exact this
theorem mat_of_cells (W : World) (a b c : Nat) (ha : a < W.heap.size) (hb : b < W.heap.size) (hc : c < W.heap.size)
    (a0 : W.cell? ⟨a, 0, none⟩ = some (.int .i64 8)) (a1 : W.cell? ⟨a, 1, none⟩ = some (.int .i64 10)) (a2 : W.cell? ⟨a, 2, none⟩ = some (.int .i64 12))
    (g0 : W.cell? ⟨b, 0, none⟩ = some (.string ⟨#[65]⟩)) (g1 : W.cell? ⟨b, 1, none⟩ = some (.int .i64 7850)) (g2 : W.cell? ⟨b, 2, none⟩ = some (.int .i64 235)) (g3 : W.cell? ⟨b, 3, none⟩ = some (.slice (some ⟨a, 0, none⟩) 3 3))
    (s0 : W.cell? ⟨c, 0, none⟩ = some (.string ⟨#[72, 80]⟩)) (s1 : W.cell? ⟨c, 1, none⟩ = some (.int .i64 2500)) (s2 : W.cell? ⟨c, 2, none⟩ = some (.int .i64 200)) (s3 : W.cell? ⟨c, 3, none⟩ = some (.int .i64 12000)) :
    MatAt W (.agg #[.slice (some ⟨b, 0, none⟩) 1 1, .slice (some ⟨c, 0, none⟩) 1 1]) stM (fun _ => .slice (some ⟨a, 0, none⟩) 3 3) := by
  refine ⟨_, _, rfl, ⟨⟨_, 1, rfl, Nat.le_refl _, by omega, fun _ => ⟨b, 0, rfl, hb, fun i j hi hj => ?_⟩⟩, fun i hi => ⟨_, 3, rfl, Nat.le_refl _, by omega, fun _ => ⟨a, 0, rfl, ha, fun i j hi hj => ?_⟩⟩⟩, ⟨_, 1, rfl, Nat.le_refl _, by omega, fun _ => ⟨c, 0, rfl, hc, fun i j hi hj => ?_⟩⟩, by decide, by decide, fun i hi => by show 3 ≤ _; omega⟩
  · have hi0 : i = 0 := by have : i < 1 := hi; omega
    subst hi0
    match j, hj with
    | 0, _ => exact g0
    | 1, _ => exact g1
    | 2, _ => exact g2
    | 3, _ => exact g3
  · have hj0 : j = 0 := by omega
    subst hj0
    have hi3 : i < 3 := hi
    match i, hi3 with
    | 0, _ => exact a0
    | 1, _ => exact a1
    | 2, _ => exact a2
  · have hi0 : i = 0 := by have : i < 1 := hi; omega
    subst hi0
    match j, hj with
    | 0, _ => exact s0
    | 1, _ => exact s1
    | 2, _ => exact s2
    | 3, _ => exact s3
set_option maxHeartbeats 2000000 in
theorem steel_any (w : World) : Calls Tryz.prog 25 #[] w fun e w' => ∃ oa ca ob cb gv, e = .returned (.agg #[.slice oa 1 ca, .slice ob 1 cb]) ∧ MatAt w' (.agg #[.slice oa 1 ca, .slice ob 1 cb]) stM gv ∧ Below w.heap.size w w' := by
  go_enter Tryz.func25, Tryz.ntmps25
  go_wp2
  all_goals (refine bodyPost_ret (v := .agg #[.slice (some ⟨w.heap.size + 1 + 1, 0, none⟩) 1 1, .slice (some ⟨w.heap.size + 1 + 1 + 1, 0, none⟩) 1 1]) (by simp [results, Tryz.results25, go_sem, *]) rfl ?_)
  refine ⟨_, _, _, _, _, rfl, mat_of_cells _ (w.heap.size + 1) (w.heap.size + 1 + 1) (w.heap.size + 1 + 1 + 1) (by simp <;> omega) (by simp <;> omega) (by simp <;> omega) ?_ ?_ ?_ ?_ ?_ ?_ ?_ ?_ ?_ ?_ ?_, by go_grown⟩
  all_goals simp [go_sem]
end Go.Proofs.YtiddpaaihloopaaGreatDoor
