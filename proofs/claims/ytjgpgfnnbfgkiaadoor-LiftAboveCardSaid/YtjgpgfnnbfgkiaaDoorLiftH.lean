/-
  The chapter's numbers, by a walk. Conditions: none. By an AI agent.
-/
import Derived.Test.YtjgpgfnnbfgkiaaDoorLiftF
import Derived.Test.YtjgpgfnnbfgkiaaDoorCells
namespace Go.Proofs.YtjgpgfnnbfgkiaaDoor
open Go Go.ChangeShapes Go.WideShapes Go.RowKit Go.ChangeAt
set_option linter.unusedSimpArgs false
set_option linter.unusedVariables false
def wkC (i : Nat) : ByteArray := match i with | 0 => ⟨#[67, 49]⟩ | _ => ⟨#[67, 50]⟩
def wkX (i : Nat) : Int := match i with | 0 => 0 | _ => 10000
def wkZ (_ : Nat) : Int := 0
def wkY (_ : Nat) : Int := 2399
def wkN (_ : Nat) : Nat := 1
def wkR (_ _ : Nat) : Int := 9000
def wkQ (i _ : Nat) : Int := match i with | 0 => 2000000 | _ => 270375
theorem wk_gross : grossF 1000000 2500000000 50000000 0 100 = (1081500, 0) := by decide +kernel
theorem wk_loads : loadsF 2 wkX wkZ 1000000 2500000000 50000000 0 100 = ([811125, 270375], 0) := by decide +kernel
theorem wk_lift1 : liftF ⟨#[66, 49]⟩ 2 wkC wkX wkZ wkZ 1000000 2500000000 50000000 0 100 2 wkC wkN wkR wkQ = 0 := by decide +kernel
theorem wk_lift2 : liftF ⟨#[66, 49]⟩ 1 wkC wkY wkZ wkZ 1000000 2500000000 50000000 0 100 2 wkC wkN wkR wkQ = 18 := by decide +kernel
theorem wk_opt1 : optF 2 wkC wkN wkR wkQ 9000 1000000 2500000000 50000000 0 100 = [⟨#[67, 49]⟩] := by decide +kernel
theorem wk_opt2 : optF 2 wkC wkN wkR wkQ 9001 1000000 2500000000 50000000 0 100 = [] := by decide +kernel
theorem wk_hooks {w : World} {g : Nat} {t : TypeId} (h : w.heap[g]? = some (.cells #[.string ⟨#[67, 49]⟩, .int .i64 0, .int .i64 0, .int .i64 0, .string ⟨#[67, 50]⟩, .int .i64 10000, .int .i64 0, .int .i64 0] t)) : HooksAt w (.slice (some ⟨g, 0, none⟩) 2 2) 2 wkC wkX wkZ wkZ := by
  obtain ⟨k0, k1, k2, k3, k4, k5, k6, k7, -, hl⟩ := cells_at8 h
  refine ⟨⟨_, 2, rfl, by omega, by omega, fun _ => ⟨_, 0, rfl, hl, fun i j hi hj => ?_⟩⟩, fun i hi => ?_⟩
  · rcases (by omega : i = 0 ∨ i = 1) with rfl | rfl <;> rcases (by omega : j = 0 ∨ j = 1 ∨ j = 2 ∨ j = 3) with rfl | rfl | rfl | rfl
    · exact k0
    · exact k1
    · exact k2
    · exact k3
    · exact k4
    · exact k5
    · exact k6
    · exact k7
  · rcases (by omega : i = 0 ∨ i = 1) with rfl | rfl <;> decide
theorem wk_hooky {w : World} {g : Nat} {t : TypeId} (h : w.heap[g]? = some (.cells #[.string ⟨#[67, 49]⟩, .int .i64 2399, .int .i64 0, .int .i64 0] t)) : HooksAt w (.slice (some ⟨g, 0, none⟩) 1 1) 1 wkC wkY wkZ wkZ := by
  obtain ⟨k0, k1, k2, k3, -, hl⟩ := cells_at4 h
  refine ⟨⟨_, 1, rfl, by omega, by omega, fun _ => ⟨_, 0, rfl, hl, fun i j hi hj => ?_⟩⟩, fun i hi => ?_⟩
  · rcases (by omega : i = 0) with rfl
    rcases (by omega : j = 0 ∨ j = 1 ∨ j = 2 ∨ j = 3) with rfl | rfl | rfl | rfl
    · exact k0
    · exact k1
    · exact k2
    · exact k3
  · rcases (by omega : i = 0) with rfl
    decide
def wkV (a b i : Nat) : Value := match i with | 0 => .slice (some ⟨a, 0, none⟩) 1 1 | _ => .slice (some ⟨b, 0, none⟩) 1 1
theorem wk_cranes {w : World} {g a b : Nat} {t t1 t2 : TypeId} (h : w.heap[g]? = some (.cells #[.string ⟨#[67, 49]⟩, .slice (some ⟨a, 0, none⟩) 1 1, .string ⟨#[67, 50]⟩, .slice (some ⟨b, 0, none⟩) 1 1] t))
    (ha : w.heap[a]? = some (.cells #[.int .i64 9000, .int .i64 2000000] t1)) (hb : w.heap[b]? = some (.cells #[.int .i64 9000, .int .i64 270375] t2)) : CranesAt w (.slice (some ⟨g, 0, none⟩) 2 2) 2 wkC (wkV a b) wkN wkR wkQ := by
  obtain ⟨k0, k1, k2, k3, -, hl⟩ := cells_at4 h
  obtain ⟨a0, a1, -, al⟩ := cells_at2 ha
  obtain ⟨b0, b1, -, bl⟩ := cells_at2 hb
  refine ⟨⟨_, 2, rfl, by omega, by omega, fun _ => ⟨_, 0, rfl, hl, fun i j hi hj => ?_⟩⟩, fun i hi => ?_⟩
  · rcases (by omega : i = 0 ∨ i = 1) with rfl | rfl <;> rcases (by omega : j = 0 ∨ j = 1) with rfl | rfl
    · exact k0
    · exact k1
    · exact k2
    · exact k3
  · rcases (by omega : i = 0 ∨ i = 1) with rfl | rfl
    · refine ⟨by decide, _, 1, rfl, by decide, by decide, fun _ => ⟨_, 0, rfl, al, fun i j hi hj => ?_⟩⟩
      have hi : i = 0 := by unfold wkN at hi; omega
      subst hi
      rcases (by omega : j = 0 ∨ j = 1) with rfl | rfl
      · exact a0
      · exact a1
    · refine ⟨by decide, _, 1, rfl, by decide, by decide, fun _ => ⟨_, 0, rfl, bl, fun i j hi hj => ?_⟩⟩
      have hi : i = 0 := by unfold wkN at hi; omega
      subst hi
      rcases (by omega : j = 0 ∨ j = 1) with rfl | rfl
      · exact b0
      · exact b1
theorem wk_two {w : World} {g : Nat} {a b : Int} {t : TypeId} (h : w.heap[g]? = some (.cells #[.int .i64 a, .int .i64 b] t)) : OutI w (.slice (some ⟨g, 0, none⟩) 2 2) [a, b] := by
  obtain ⟨k0, k1, -, hl⟩ := cells_at2 h
  refine ⟨_, _, rfl, Nat.le_refl _, by decide, fun _ => ⟨_, 0, rfl, hl, fun i j hi hj => ?_⟩⟩
  have : j = 0 := by omega
  subst this
  have : i < 2 := by simpa using hi
  rcases (by omega : i = 0 ∨ i = 1) with rfl | rfl
  · exact k0
  · exact k1
theorem wk_one {w : World} {g : Nat} {s : ByteArray} {t : TypeId} (h : w.heap[g]? = some (.cells #[.string s] t)) : NamesAt w (.slice (some ⟨g, 0, none⟩) 1 1) [s] := by
  obtain ⟨k0, -, hl⟩ := cells_at1 h
  refine ⟨_, _, rfl, Nat.le_refl _, by decide, fun _ => ⟨_, 0, rfl, hl, fun i j hi hj => ?_⟩⟩
  have : j = 0 := by omega
  subst this
  have : i < 1 := by simpa using hi
  rcases (by omega : i = 0) with rfl
  exact k0
set_option maxRecDepth 20000 in
set_option maxHeartbeats 4000000 in
theorem awake_any (w : World) (hm : MaxLenIs w) : Calls Tryd.prog 13 #[] w fun e w' => e = .returned (.bool true) ∧ Below w.heap.size w w' := by
  have HM := Lib.hid hm
  clear hm
  go_enter Tryd.func13, Tryd.ntmps13
  go_wp2_with fail
  (go_at_call 11; refine (gross_any _ _ _ _ _ _).mono ?_; rintro e w1 ⟨rfl, hb⟩)
  rw [wk_gross]
  have qw : w1.heap[w.heap.size]? = some (.cells #[.int .i64 1000000, .int .i64 2500000000, .int .i64 50000000, .int .i64 0, .int .i64 100] 23) := by
    rw [hb.block _ (by simp <;> omega)]
    exact heapA_at _ _ _ rfl
  have z10 : w.heap.size < w1.heap.size := by have := hb.size; simp at this; omega
  have HB1 : Hid (Below w.heap.size w w1) := by
    show Below _ _ _
    exact below_step (w := w) (by go_grown) hb
  clear hb
  obtain ⟨u0, u1, u2, u3, u4, uf, -⟩ := cells_at5 qw
  have QW := Lib.hid qw
  clear qw
  have HHK := Lib.hid (wk_hooks (show ((w1.alloc (.cells #[.string ⟨#[67, 49]⟩, .int .i64 0, .int .i64 0, .int .i64 0, .string ⟨#[67, 50]⟩, .int .i64 10000, .int .i64 0, .int .i64 0] 42)).alloc (.cells #[.string ⟨#[66, 49]⟩, .slice (some ⟨w1.heap.size, 0, none⟩) 2 2] 31)).heap[w1.heap.size]? = some (.cells #[.string ⟨#[67, 49]⟩, .int .i64 0, .int .i64 0, .int .i64 0, .string ⟨#[67, 50]⟩, .int .i64 10000, .int .i64 0, .int .i64 0] 42) by rw [heapA_old _ _ _ (by simp), heapA_at _ _ _ rfl]))
  go_wp2_with fail
  (go_at_call 14; refine (loads_any ⟨#[66, 49]⟩ _ 2 wkC wkX wkZ wkZ 1000000 2500000000 50000000 0 100 _ HHK.out).mono ?_; rintro e w2 ⟨lv, rfl, hlv, -, hb⟩)
  rw [wk_loads] at hlv ⊢
  obtain ⟨ol, cl, rfl, -, -⟩ := hlv.form
  have HLV := Lib.hid hlv
  have qw2 : w2.heap[w.heap.size]? = some (.cells #[.int .i64 1000000, .int .i64 2500000000, .int .i64 50000000, .int .i64 0, .int .i64 100] 23) := by rw [hb.block _ (by simp <;> omega), heapA_old _ _ _ (by simp <;> omega), heapA_old _ _ _ (by omega)]; exact QW.out
  have qh2 : w2.heap[w1.heap.size]? = some (.cells #[.string ⟨#[67, 49]⟩, .int .i64 0, .int .i64 0, .int .i64 0, .string ⟨#[67, 50]⟩, .int .i64 10000, .int .i64 0, .int .i64 0] 42) := by rw [hb.block _ (by simp <;> omega), heapA_old _ _ _ (by simp), heapA_at _ _ _ rfl]
  have ql2 : w2.heap[w1.heap.size + 1]? = some (.cells #[.string ⟨#[66, 49]⟩, .slice (some ⟨w1.heap.size, 0, none⟩) 2 2] 31) := by rw [hb.block _ (by simp <;> omega), heapA_at _ _ _ (by simp)]
  have z20 : w1.heap.size + 1 < w2.heap.size := by have := hb.size; simp at this; omega
  have HB2 : Hid (Below w.heap.size w w2) := by
    show Below _ _ _
    exact below_step ((HB1.out.alloc HB1.out.size _).alloc (HB1.out.alloc HB1.out.size _).size _) hb
  clear hb hlv u0 u1 u2 u3 u4 uf
  obtain ⟨u0, u1, u2, u3, u4, uf, -⟩ := cells_at5 qw2
  obtain ⟨l0, l1, lf, -⟩ := cells_at2 ql2
  have QW2 := Lib.hid qw2
  have QH2 := Lib.hid qh2
  have QL2 := Lib.hid ql2
  clear qw2 qh2 ql2
  have new0 : w.heap.size ≠ w2.heap.size := by omega
  have ltw0 : w.heap.size < w2.heap.size := by omega
  have new1 : w.heap.size ≠ w2.heap.size + 1 := by omega
  have ltw1 : w.heap.size < w2.heap.size + 1 := by omega
  have new2 : w.heap.size ≠ w2.heap.size + 1 + 1 := by omega
  have ltw2 : w.heap.size < w2.heap.size + 1 + 1 := by omega
  have new3 : w.heap.size ≠ w2.heap.size + 1 + 1 + 1 := by omega
  have ltw3 : w.heap.size < w2.heap.size + 1 + 1 + 1 := by omega
  have new4 : w.heap.size ≠ w2.heap.size + 1 + 1 + 1 + 1 := by omega
  have ltw4 : w.heap.size < w2.heap.size + 1 + 1 + 1 + 1 := by omega
  have new5 : w.heap.size ≠ w2.heap.size + 1 + 1 + 1 + 1 + 1 := by omega
  have ltw5 : w.heap.size < w2.heap.size + 1 + 1 + 1 + 1 + 1 := by omega
  have neh0 : w1.heap.size ≠ w2.heap.size := by omega
  have lth0 : w1.heap.size < w2.heap.size := by omega
  have neh1 : w1.heap.size ≠ w2.heap.size + 1 := by omega
  have lth1 : w1.heap.size < w2.heap.size + 1 := by omega
  have neh2 : w1.heap.size ≠ w2.heap.size + 1 + 1 := by omega
  have lth2 : w1.heap.size < w2.heap.size + 1 + 1 := by omega
  have neh3 : w1.heap.size ≠ w2.heap.size + 1 + 1 + 1 := by omega
  have lth3 : w1.heap.size < w2.heap.size + 1 + 1 + 1 := by omega
  have neh4 : w1.heap.size ≠ w2.heap.size + 1 + 1 + 1 + 1 := by omega
  have lth4 : w1.heap.size < w2.heap.size + 1 + 1 + 1 + 1 := by omega
  have neh5 : w1.heap.size ≠ w2.heap.size + 1 + 1 + 1 + 1 + 1 := by omega
  have lth5 : w1.heap.size < w2.heap.size + 1 + 1 + 1 + 1 + 1 := by omega
  have nel0 : w1.heap.size + 1 ≠ w2.heap.size := by omega
  have ltl0 : w1.heap.size + 1 < w2.heap.size := by omega
  have nel1 : w1.heap.size + 1 ≠ w2.heap.size + 1 := by omega
  have ltl1 : w1.heap.size + 1 < w2.heap.size + 1 := by omega
  have nel2 : w1.heap.size + 1 ≠ w2.heap.size + 1 + 1 := by omega
  have ltl2 : w1.heap.size + 1 < w2.heap.size + 1 + 1 := by omega
  have nel3 : w1.heap.size + 1 ≠ w2.heap.size + 1 + 1 + 1 := by omega
  have ltl3 : w1.heap.size + 1 < w2.heap.size + 1 + 1 + 1 := by omega
  have nel4 : w1.heap.size + 1 ≠ w2.heap.size + 1 + 1 + 1 + 1 := by omega
  have ltl4 : w1.heap.size + 1 < w2.heap.size + 1 + 1 + 1 + 1 := by omega
  have nel5 : w1.heap.size + 1 ≠ w2.heap.size + 1 + 1 + 1 + 1 + 1 := by omega
  have ltl5 : w1.heap.size + 1 < w2.heap.size + 1 + 1 + 1 + 1 + 1 := by omega
  go_wp2_with fail
  (go_at_call 16; refine (sameInts_yes _ _ _ _ (HLV.out.below (by go_grown)) (wk_two (g := w2.heap.size + 1 + 1 + 1 + 1 + 1) (t := 3) (by first | (simp (disch := (first | omega | (simp only [World.size_alloc, World.size_setCell] <;> omega))) only [heapA_at, heapA_old, heapS_same, heapS_other, setObj, Option.map_some, List.setIfInBounds_toArray, List.set_cons_zero, List.set_cons_succ]; done) | fail))).mono ?_; rintro e w3 ⟨rfl, hb⟩)
  have z3 : w2.heap.size + 1 + 1 + 1 + 1 + 1 < w3.heap.size := by have := hb.size; simp at this; omega
  have HB3 : Hid (Below w.heap.size w w3) := by
    show Below _ _ _
    have h2 := HB2.out
    have hz := h2.size
    refine below_step (w := w) ?_ hb
    exact h2.trans ((show Below w2.heap.size w2 _ by go_grown).mono hz)
  have q1 := QW2.out
  have q2 := QH2.out
  have q3 := QL2.out
  have qw3 : w3.heap[w.heap.size]? = some (.cells #[.int .i64 1000000, .int .i64 2500000000, .int .i64 50000000, .int .i64 0, .int .i64 100] 23) := by
    rw [hb.block _ (by first | omega | (simp only [World.size_alloc]; done) | (simp only [World.size_alloc]; omega))]
    rw [heapA_old _ _ _ (by first | omega | (simp only [World.size_alloc]; done) | (simp only [World.size_alloc]; omega)), heapA_old _ _ _ (by first | omega | (simp only [World.size_alloc]; done) | (simp only [World.size_alloc]; omega)), heapA_old _ _ _ (by first | omega | (simp only [World.size_alloc]; done) | (simp only [World.size_alloc]; omega)), heapA_old _ _ _ (by first | omega | (simp only [World.size_alloc]; done) | (simp only [World.size_alloc]; omega)), heapA_old _ _ _ (by first | omega | (simp only [World.size_alloc]; done) | (simp only [World.size_alloc]; omega)), heapA_old _ _ _ (by first | omega | (simp only [World.size_alloc]; done) | (simp only [World.size_alloc]; omega))]
    exact q1
  have qh3 : w3.heap[w1.heap.size]? = some (.cells #[.string ⟨#[67, 49]⟩, .int .i64 0, .int .i64 0, .int .i64 0, .string ⟨#[67, 50]⟩, .int .i64 10000, .int .i64 0, .int .i64 0] 42) := by
    rw [hb.block _ (by first | omega | (simp only [World.size_alloc]; done) | (simp only [World.size_alloc]; omega))]
    rw [heapA_old _ _ _ (by first | omega | (simp only [World.size_alloc]; done) | (simp only [World.size_alloc]; omega)), heapA_old _ _ _ (by first | omega | (simp only [World.size_alloc]; done) | (simp only [World.size_alloc]; omega)), heapA_old _ _ _ (by first | omega | (simp only [World.size_alloc]; done) | (simp only [World.size_alloc]; omega)), heapA_old _ _ _ (by first | omega | (simp only [World.size_alloc]; done) | (simp only [World.size_alloc]; omega)), heapA_old _ _ _ (by first | omega | (simp only [World.size_alloc]; done) | (simp only [World.size_alloc]; omega)), heapA_old _ _ _ (by first | omega | (simp only [World.size_alloc]; done) | (simp only [World.size_alloc]; omega))]
    exact q2
  have ql3 : w3.heap[w1.heap.size + 1]? = some (.cells #[.string ⟨#[66, 49]⟩, .slice (some ⟨w1.heap.size, 0, none⟩) 2 2] 31) := by
    rw [hb.block _ (by first | omega | (simp only [World.size_alloc]; done) | (simp only [World.size_alloc]; omega))]
    rw [heapA_old _ _ _ (by first | omega | (simp only [World.size_alloc]; done) | (simp only [World.size_alloc]; omega)), heapA_old _ _ _ (by first | omega | (simp only [World.size_alloc]; done) | (simp only [World.size_alloc]; omega)), heapA_old _ _ _ (by first | omega | (simp only [World.size_alloc]; done) | (simp only [World.size_alloc]; omega)), heapA_old _ _ _ (by first | omega | (simp only [World.size_alloc]; done) | (simp only [World.size_alloc]; omega)), heapA_old _ _ _ (by first | omega | (simp only [World.size_alloc]; done) | (simp only [World.size_alloc]; omega)), heapA_old _ _ _ (by first | omega | (simp only [World.size_alloc]; done) | (simp only [World.size_alloc]; omega))]
    exact q3
  have qa3 : w3.heap[w2.heap.size]? = some (.cells #[.int .i64 9000, .int .i64 2000000] 67) := by
    rw [hb.block _ (by first | omega | (simp only [World.size_alloc]; done) | (simp only [World.size_alloc]; omega))]
    rw [heapA_old _ _ _ (by first | omega | (simp only [World.size_alloc]; done) | (simp only [World.size_alloc]; omega)), heapA_old _ _ _ (by first | omega | (simp only [World.size_alloc]; done) | (simp only [World.size_alloc]; omega)), heapA_old _ _ _ (by first | omega | (simp only [World.size_alloc]; done) | (simp only [World.size_alloc]; omega)), heapA_old _ _ _ (by first | omega | (simp only [World.size_alloc]; done) | (simp only [World.size_alloc]; omega)), heapA_old _ _ _ (by first | omega | (simp only [World.size_alloc]; done) | (simp only [World.size_alloc]; omega)), heapA_at _ _ _ (by first | omega | (simp only [World.size_alloc]; done) | (simp only [World.size_alloc]; omega))]
  have qb3 : w3.heap[w2.heap.size + 1]? = some (.cells #[.int .i64 9000, .int .i64 270375] 67) := by
    rw [hb.block _ (by first | omega | (simp only [World.size_alloc]; done) | (simp only [World.size_alloc]; omega))]
    rw [heapA_old _ _ _ (by first | omega | (simp only [World.size_alloc]; done) | (simp only [World.size_alloc]; omega)), heapA_old _ _ _ (by first | omega | (simp only [World.size_alloc]; done) | (simp only [World.size_alloc]; omega)), heapA_old _ _ _ (by first | omega | (simp only [World.size_alloc]; done) | (simp only [World.size_alloc]; omega)), heapA_old _ _ _ (by first | omega | (simp only [World.size_alloc]; done) | (simp only [World.size_alloc]; omega)), heapA_at _ _ _ (by first | omega | (simp only [World.size_alloc]; done) | (simp only [World.size_alloc]; omega))]
  have qc3 : w3.heap[w2.heap.size + 1 + 1]? = some (.cells #[.string ⟨#[67, 49]⟩, .slice (some ⟨w2.heap.size, 0, none⟩) 1 1, .string ⟨#[67, 50]⟩, .slice (some ⟨w2.heap.size + 1, 0, none⟩) 1 1] 50) := by
    rw [hb.block _ (by first | omega | (simp only [World.size_alloc]; done) | (simp only [World.size_alloc]; omega))]
    rw [heapA_old _ _ _ (by first | omega | (simp only [World.size_alloc]; done) | (simp only [World.size_alloc]; omega)), heapA_old _ _ _ (by first | omega | (simp only [World.size_alloc]; done) | (simp only [World.size_alloc]; omega)), heapA_old _ _ _ (by first | omega | (simp only [World.size_alloc]; done) | (simp only [World.size_alloc]; omega)), heapA_at _ _ _ (by first | omega | (simp only [World.size_alloc]; done) | (simp only [World.size_alloc]; omega))]
  have qy3 : w3.heap[w2.heap.size + 1 + 1 + 1]? = some (.cells #[.string ⟨#[66, 49]⟩, .slice (some ⟨w2.heap.size + 1 + 1 + 1 + 1, 0, none⟩) 1 1] 31) := by
    rw [hb.block _ (by first | omega | (simp only [World.size_alloc]; done) | (simp only [World.size_alloc]; omega))]
    rw [heapA_old _ _ _ (by first | omega | (simp only [World.size_alloc]; done) | (simp only [World.size_alloc]; omega)), heapA_old _ _ _ (by first | omega | (simp only [World.size_alloc]; done) | (simp only [World.size_alloc]; omega)), heapA_at _ _ _ (by first | omega | (simp only [World.size_alloc]; done) | (simp only [World.size_alloc]; omega))]
  have qz3 : w3.heap[w2.heap.size + 1 + 1 + 1 + 1]? = some (.cells #[.string ⟨#[67, 49]⟩, .int .i64 2399, .int .i64 0, .int .i64 0] 42) := by
    rw [hb.block _ (by first | omega | (simp only [World.size_alloc]; done) | (simp only [World.size_alloc]; omega))]
    rw [heapA_old _ _ _ (by first | omega | (simp only [World.size_alloc]; done) | (simp only [World.size_alloc]; omega)), heapA_at _ _ _ (by first | omega | (simp only [World.size_alloc]; done) | (simp only [World.size_alloc]; omega))]
  clear hb q1 q2 q3 u0 u1 u2 u3 u4 uf l0 l1 lf
  obtain ⟨u0, u1, u2, u3, u4, uf, -⟩ := cells_at5 qw3
  obtain ⟨l0, l1, lf, -⟩ := cells_at2 ql3
  obtain ⟨y0, y1, yf, -⟩ := cells_at2 qy3
  have Qw3 := Lib.hid qw3
  have Qh3 := Lib.hid qh3
  have Ql3 := Lib.hid ql3
  have Qa3 := Lib.hid qa3
  have Qb3 := Lib.hid qb3
  have Qc3 := Lib.hid qc3
  have Qy3 := Lib.hid qy3
  have Qz3 := Lib.hid qz3
  clear qw3 qh3 ql3 qa3 qb3 qc3 qy3 qz3
  go_wp2_with fail
  (go_at_call 18; refine (lift_any ⟨#[66, 49]⟩ _ 2 wkC wkX wkZ wkZ 1000000 2500000000 50000000 0 100 _ 2 wkC _ wkN wkR wkQ _ (by decide) (HM.out.below HB3.out) (wk_hooks Qh3.out) (wk_cranes Qc3.out Qa3.out Qb3.out) (fun i hi => by unfold wkN; omega)).mono ?_; rintro e w4 ⟨rfl, hb⟩)
  rw [wk_lift1]
  have qw4 := (hb.block _ (cells_at Qw3.out).2.2).trans Qw3.out
  have qh4 := (hb.block _ (cells_at Qh3.out).2.2).trans Qh3.out
  have ql4 := (hb.block _ (cells_at Ql3.out).2.2).trans Ql3.out
  have qa4 := (hb.block _ (cells_at Qa3.out).2.2).trans Qa3.out
  have qb4 := (hb.block _ (cells_at Qb3.out).2.2).trans Qb3.out
  have qc4 := (hb.block _ (cells_at Qc3.out).2.2).trans Qc3.out
  have qy4 := (hb.block _ (cells_at Qy3.out).2.2).trans Qy3.out
  have qz4 := (hb.block _ (cells_at Qz3.out).2.2).trans Qz3.out
  have HB4 := Lib.hid (below_step HB3.out hb)
  clear hb u0 u1 u2 u3 u4 uf l0 l1 lf y0 y1 yf
  obtain ⟨u0, u1, u2, u3, u4, uf, -⟩ := cells_at5 qw4
  obtain ⟨l0, l1, lf, -⟩ := cells_at2 ql4
  obtain ⟨y0, y1, yf, -⟩ := cells_at2 qy4
  have Qw4 := Lib.hid qw4
  have Qh4 := Lib.hid qh4
  have Ql4 := Lib.hid ql4
  have Qa4 := Lib.hid qa4
  have Qb4 := Lib.hid qb4
  have Qc4 := Lib.hid qc4
  have Qy4 := Lib.hid qy4
  have Qz4 := Lib.hid qz4
  clear qw4 qh4 ql4 qa4 qb4 qc4 qy4 qz4
  go_wp2_with fail
  (go_at_call 18; refine (lift_any ⟨#[66, 49]⟩ _ 1 wkC wkY wkZ wkZ 1000000 2500000000 50000000 0 100 _ 2 wkC _ wkN wkR wkQ _ (by decide) (HM.out.below HB4.out) (wk_hooky Qz4.out) (wk_cranes Qc4.out Qa4.out Qb4.out) (fun i hi => by unfold wkN; omega)).mono ?_; rintro e w5 ⟨rfl, hb⟩)
  rw [wk_lift2]
  have qw5 := (hb.block _ (cells_at Qw4.out).2.2).trans Qw4.out
  have qh5 := (hb.block _ (cells_at Qh4.out).2.2).trans Qh4.out
  have ql5 := (hb.block _ (cells_at Ql4.out).2.2).trans Ql4.out
  have qa5 := (hb.block _ (cells_at Qa4.out).2.2).trans Qa4.out
  have qb5 := (hb.block _ (cells_at Qb4.out).2.2).trans Qb4.out
  have qc5 := (hb.block _ (cells_at Qc4.out).2.2).trans Qc4.out
  have qy5 := (hb.block _ (cells_at Qy4.out).2.2).trans Qy4.out
  have qz5 := (hb.block _ (cells_at Qz4.out).2.2).trans Qz4.out
  have HB5 := Lib.hid (below_step HB4.out hb)
  clear hb u0 u1 u2 u3 u4 uf l0 l1 lf y0 y1 yf
  obtain ⟨u0, u1, u2, u3, u4, uf, -⟩ := cells_at5 qw5
  obtain ⟨l0, l1, lf, -⟩ := cells_at2 ql5
  obtain ⟨y0, y1, yf, -⟩ := cells_at2 qy5
  have Qw5 := Lib.hid qw5
  have Qh5 := Lib.hid qh5
  have Ql5 := Lib.hid ql5
  have Qa5 := Lib.hid qa5
  have Qb5 := Lib.hid qb5
  have Qc5 := Lib.hid qc5
  have Qy5 := Lib.hid qy5
  have Qz5 := Lib.hid qz5
  clear qw5 qh5 ql5 qa5 qb5 qc5 qy5 qz5
  go_wp2_with fail
  (go_at_call 21; refine (opt_any _ 2 wkC _ wkN wkR wkQ 9000 1000000 2500000000 50000000 0 100 _ (by omega) (wk_cranes Qc5.out Qa5.out Qb5.out)).mono ?_; rintro e w6 ⟨ov, rfl, hov, hb⟩)
  rw [wk_opt1] at hov
  obtain ⟨oo, oc, rfl, -, -⟩ := hov.form
  have HOV5 := Lib.hid hov
  clear hov
  have qw6 := (hb.block _ (cells_at Qw5.out).2.2).trans Qw5.out
  have qh6 := (hb.block _ (cells_at Qh5.out).2.2).trans Qh5.out
  have ql6 := (hb.block _ (cells_at Ql5.out).2.2).trans Ql5.out
  have qa6 := (hb.block _ (cells_at Qa5.out).2.2).trans Qa5.out
  have qb6 := (hb.block _ (cells_at Qb5.out).2.2).trans Qb5.out
  have qc6 := (hb.block _ (cells_at Qc5.out).2.2).trans Qc5.out
  have qy6 := (hb.block _ (cells_at Qy5.out).2.2).trans Qy5.out
  have qz6 := (hb.block _ (cells_at Qz5.out).2.2).trans Qz5.out
  have HB6 := Lib.hid (below_step HB5.out hb)
  clear hb u0 u1 u2 u3 u4 uf l0 l1 lf y0 y1 yf
  obtain ⟨u0, u1, u2, u3, u4, uf, -⟩ := cells_at5 qw6
  obtain ⟨l0, l1, lf, -⟩ := cells_at2 ql6
  obtain ⟨y0, y1, yf, -⟩ := cells_at2 qy6
  have Qw6 := Lib.hid qw6
  have Qh6 := Lib.hid qh6
  have Ql6 := Lib.hid ql6
  have Qa6 := Lib.hid qa6
  have Qb6 := Lib.hid qb6
  have Qc6 := Lib.hid qc6
  have Qy6 := Lib.hid qy6
  have Qz6 := Lib.hid qz6
  clear qw6 qh6 ql6 qa6 qb6 qc6 qy6 qz6
  go_wp2_with fail
  (go_at_call 20; refine (sameNames_yes _ _ _ _ (HOV5.out.below (by go_grown)) (wk_one (g := w6.heap.size) (t := 9) (heapA_at _ _ _ rfl))).mono ?_; rintro e w7 ⟨rfl, hb'⟩)
  have hb : Below w6.heap.size w6 w7 := below_step (w := w6) (by go_grown) hb'
  clear hb'
  have qw7 := (hb.block _ (cells_at Qw6.out).2.2).trans Qw6.out
  have qh7 := (hb.block _ (cells_at Qh6.out).2.2).trans Qh6.out
  have ql7 := (hb.block _ (cells_at Ql6.out).2.2).trans Ql6.out
  have qa7 := (hb.block _ (cells_at Qa6.out).2.2).trans Qa6.out
  have qb7 := (hb.block _ (cells_at Qb6.out).2.2).trans Qb6.out
  have qc7 := (hb.block _ (cells_at Qc6.out).2.2).trans Qc6.out
  have qy7 := (hb.block _ (cells_at Qy6.out).2.2).trans Qy6.out
  have qz7 := (hb.block _ (cells_at Qz6.out).2.2).trans Qz6.out
  have HB7 := Lib.hid (below_step HB6.out hb)
  clear hb u0 u1 u2 u3 u4 uf l0 l1 lf y0 y1 yf
  obtain ⟨u0, u1, u2, u3, u4, uf, -⟩ := cells_at5 qw7
  obtain ⟨l0, l1, lf, -⟩ := cells_at2 ql7
  obtain ⟨y0, y1, yf, -⟩ := cells_at2 qy7
  have Qw7 := Lib.hid qw7
  have Qh7 := Lib.hid qh7
  have Ql7 := Lib.hid ql7
  have Qa7 := Lib.hid qa7
  have Qb7 := Lib.hid qb7
  have Qc7 := Lib.hid qc7
  have Qy7 := Lib.hid qy7
  have Qz7 := Lib.hid qz7
  clear qw7 qh7 ql7 qa7 qb7 qc7 qy7 qz7
  go_wp2_with fail
  (go_at_call 21; refine (opt_any _ 2 wkC _ wkN wkR wkQ 9001 1000000 2500000000 50000000 0 100 _ (by omega) (wk_cranes Qc7.out Qa7.out Qb7.out)).mono ?_; rintro e w8 ⟨ov, rfl, hov, hb⟩)
  rw [wk_opt2] at hov
  obtain ⟨oo, oc, rfl, -, -⟩ := hov.form
  have HOV7 := Lib.hid hov
  clear hov
  have HB8 := Lib.hid (below_step HB7.out hb)
  clear hb
  go_wp2
  go_returns
  exact ⟨rfl, HB8.out⟩
end Go.Proofs.YtjgpgfnnbfgkiaaDoor
