/-
  The chapter's numbers, by a walk. Conditions: none. By an AI agent.
-/
import Derived.Test.YtbfbifogamlepaaDoorLiftF
import Derived.Test.YtbfbifogamlepaaDoorCells
namespace Go.Proofs.YtbfbifogamlepaaDoor
open Go Go.ChangeShapes Go.WideShapes Go.RowKit Go.ChangeAt
set_option linter.unusedSimpArgs false
set_option linter.unusedVariables false
def wkC (i : Nat) : ByteArray := match i with | 0 => ⟨#[67, 49]⟩ | _ => ⟨#[67, 50]⟩
def wkX (i : Nat) : Int := match i with | 0 => 0 | _ => 10000
def wkZ (_ : Nat) : Int := 0
def wkY (_ : Nat) : Int := 2399
def wkN (_ : Nat) : Nat := 1
def wkR (_ _ : Nat) : Int := 9000
def wkQ (i _ : Nat) : Int := match i with | 0 => 2000000 | _ => 270375
theorem wk_gross : grossF 1000000 2500000000 50000000 0 100 = (1081500, 0) := by decide +kernel
theorem wk_loads : loadsF 2 wkX wkZ 1000000 2500000000 50000000 0 100 = ([811125, 270375], 0) := by decide +kernel
theorem wk_lift1 : liftF ⟨#[66, 49]⟩ 2 wkC wkX wkZ wkZ 1000000 2500000000 50000000 0 100 2 wkC wkN wkR wkQ = 0 := by decide +kernel
theorem wk_lift2 : liftF ⟨#[66, 49]⟩ 1 wkC wkY wkZ wkZ 1000000 2500000000 50000000 0 100 2 wkC wkN wkR wkQ = 18 := by decide +kernel
theorem wk_opt1 : optF 2 wkC wkN wkR wkQ 9000 1000000 2500000000 50000000 0 100 = [⟨#[67, 49]⟩] := by decide +kernel
theorem wk_opt2 : optF 2 wkC wkN wkR wkQ 9001 1000000 2500000000 50000000 0 100 = [] := by decide +kernel
theorem wk_hooks {w : World} {g : Nat} {t : TypeId} (h : w.heap[g]? = some (.cells #[.string ⟨#[67, 49]⟩, .int .i64 0, .int .i64 0, .int .i64 0, .string ⟨#[67, 50]⟩, .int .i64 10000, .int .i64 0, .int .i64 0] t)) : HooksAt w (.slice (some ⟨g, 0, none⟩) 2 2) 2 wkC wkX wkZ wkZ := by
  obtain ⟨k0, k1, k2, k3, k4, k5, k6, k7, -, hl⟩ := cells_at8 h
  refine ⟨⟨_, 2, rfl, by omega, by omega, fun _ => ⟨_, 0, rfl, hl, fun i j hi hj => ?_⟩⟩, fun i hi => ?_⟩
  · rcases (by omega : i = 0 ∨ i = 1) with rfl | rfl <;> rcases (by omega : j = 0 ∨ j = 1 ∨ j = 2 ∨ j = 3) with rfl | rfl | rfl | rfl
    · exact k0
    · exact k1
    · exact k2
    · exact k3
    · exact k4
    · exact k5
    · exact k6
    · exact k7
  · rcases (by omega : i = 0 ∨ i = 1) with rfl | rfl <;> decide
theorem wk_hooky {w : World} {g : Nat} {t : TypeId} (h : w.heap[g]? = some (.cells #[.string ⟨#[67, 49]⟩, .int .i64 2399, .int .i64 0, .int .i64 0] t)) : HooksAt w (.slice (some ⟨g, 0, none⟩) 1 1) 1 wkC wkY wkZ wkZ := by
  obtain ⟨k0, k1, k2, k3, -, hl⟩ := cells_at4 h
  refine ⟨⟨_, 1, rfl, by omega, by omega, fun _ => ⟨_, 0, rfl, hl, fun i j hi hj => ?_⟩⟩, fun i hi => ?_⟩
  · rcases (by omega : i = 0) with rfl
    rcases (by omega : j = 0 ∨ j = 1 ∨ j = 2 ∨ j = 3) with rfl | rfl | rfl | rfl
    · exact k0
    · exact k1
    · exact k2
    · exact k3
  · rcases (by omega : i = 0) with rfl
    decide
def wkV (a b i : Nat) : Value := match i with | 0 => .slice (some ⟨a, 0, none⟩) 1 1 | _ => .slice (some ⟨b, 0, none⟩) 1 1
theorem wk_cranes {w : World} {g a b : Nat} {t t1 t2 : TypeId} (h : w.heap[g]? = some (.cells #[.string ⟨#[67, 49]⟩, .slice (some ⟨a, 0, none⟩) 1 1, .string ⟨#[67, 50]⟩, .slice (some ⟨b, 0, none⟩) 1 1] t))
    (ha : w.heap[a]? = some (.cells #[.int .i64 9000, .int .i64 2000000] t1)) (hb : w.heap[b]? = some (.cells #[.int .i64 9000, .int .i64 270375] t2)) : CranesAt w (.slice (some ⟨g, 0, none⟩) 2 2) 2 wkC (wkV a b) wkN wkR wkQ := by
  obtain ⟨k0, k1, k2, k3, -, hl⟩ := cells_at4 h
  obtain ⟨a0, a1, -, al⟩ := cells_at2 ha
  obtain ⟨b0, b1, -, bl⟩ := cells_at2 hb
  refine ⟨⟨_, 2, rfl, by omega, by omega, fun _ => ⟨_, 0, rfl, hl, fun i j hi hj => ?_⟩⟩, fun i hi => ?_⟩
  · rcases (by omega : i = 0 ∨ i = 1) with rfl | rfl <;> rcases (by omega : j = 0 ∨ j = 1) with rfl | rfl
    · exact k0
    · exact k1
    · exact k2
    · exact k3
  · rcases (by omega : i = 0 ∨ i = 1) with rfl | rfl
    · refine ⟨by decide, _, 1, rfl, by decide, by decide, fun _ => ⟨_, 0, rfl, al, fun i j hi hj => ?_⟩⟩
      have hi : i = 0 := by unfold wkN at hi; omega
      subst hi
      rcases (by omega : j = 0 ∨ j = 1) with rfl | rfl
      · exact a0
      · exact a1
    · refine ⟨by decide, _, 1, rfl, by decide, by decide, fun _ => ⟨_, 0, rfl, bl, fun i j hi hj => ?_⟩⟩
      have hi : i = 0 := by unfold wkN at hi; omega
      subst hi
      rcases (by omega : j = 0 ∨ j = 1) with rfl | rfl
      · exact b0
      · exact b1
theorem wk_two {w : World} {g : Nat} {a b : Int} {t : TypeId} (h : w.heap[g]? = some (.cells #[.int .i64 a, .int .i64 b] t)) : OutI w (.slice (some ⟨g, 0, none⟩) 2 2) [a, b] := by
  obtain ⟨k0, k1, -, hl⟩ := cells_at2 h
  refine ⟨_, _, rfl, Nat.le_refl _, by decide, fun _ => ⟨_, 0, rfl, hl, fun i j hi hj => ?_⟩⟩
  have : j = 0 := by omega
  subst this
  have : i < 2 := by simpa using hi
  rcases (by omega : i = 0 ∨ i = 1) with rfl | rfl
  · exact k0
  · exact k1
theorem wk_one {w : World} {g : Nat} {s : ByteArray} {t : TypeId} (h : w.heap[g]? = some (.cells #[.string s] t)) : NamesAt w (.slice (some ⟨g, 0, none⟩) 1 1) [s] := by
  obtain ⟨k0, -, hl⟩ := cells_at1 h
  refine ⟨_, _, rfl, Nat.le_refl _, by decide, fun _ => ⟨_, 0, rfl, hl, fun i j hi hj => ?_⟩⟩
  have : j = 0 := by omega
  subst this
  have : i < 1 := by simpa using hi
  rcases (by omega : i = 0) with rfl
  exact k0
end Go.Proofs.YtbfbifogamlepaaDoor
