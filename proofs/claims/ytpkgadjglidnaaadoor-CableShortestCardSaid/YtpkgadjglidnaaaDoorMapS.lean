/-
  A map whose keys are strings and whose elements are bools, against a list of strings. Conditions: none. By an AI agent.
-/
import Derived.Test.YtpkgadjglidnaaaDoorSeq
import Derived.Test.YtpkgadjglidnaaaDoorOwn
import Derived.Maps.RangeWalk
import Derived.Maps.Views
import Derived.StringKeys
namespace Go.Proofs.YtpkgadjglidnaaaDoor
open Go Go.RowKit Go.Maps Go.WideMaps
set_option linter.unusedVariables false
set_option linter.unusedSimpArgs false
theorem keyedS : Maps.Keyed Tryd.prog 9 := Maps.string_keyed Tryd.underlying9
theorem keyS {s : ByteArray} (h : s.size ≤ 2147483648) : keyOf Tryd.prog 9 (.string s) = some (.string s.data.toList) := keyOf_string_mk Tryd.underlying9 (by unfold maxLen; omega)
theorem boolElem_inv {H : Type} {P : Program} {e : TypeId} (he : P.underlying e = some .bool) {v : Value} {z : DataW H × List MemPlace} (h : plainElem P e v = some z) : ∃ a, v = .bool a ∧ z = (.lit (.bool a), []) := by
  unfold plainElem at h
  rw [he] at h
  cases v <;> simp at h
  exact ⟨_, rfl, h.symm⟩
theorem lookup_bool {H : Type} {P : Program} {w : World} {t k e : TypeId} {b n : Nat} {D : DataW H} (h : w.ownsMap P k (plainElem P e) b n D) (K : Maps.Keyed P k) (ht : P.underlying t = some (.map k e)) (he : P.underlying e = some .bool) (hz : (zeroValue e).run P w = .ok (.bool false) w)
    {key : Value} {kl : Lit} (hkey : keyOf P k key = some kl) : ∃ c : Bool, (Instr.lookup t (.map (some b)) key false).run P w = .ok (.bool c) w ∧ D.atKey kl (.lit (.bool false)) = .lit (.bool c) := by
  obtain ⟨v, ps, hrun, hv⟩ := h.lookup K ht hz (plainElem_bool he false) hkey
  obtain ⟨c, rfl, hc⟩ := boolElem_inv he hv
  simp only [Prod.mk.injEq] at hc
  exact ⟨c, hrun, hc.1⟩
theorem zero_bool (w : World) : (zeroValue 4).run Tryd.prog w = .ok (.bool false) w := by kernel_rfl
theorem Below.grow {W w1 : World} (h : Below W.heap.size W w1) (row : Option Nat) : W.grownBy w1 row := ⟨h.os, h.tape, h.output, h.size, fun i hi _ => h.block i hi⟩
/-- the map at a block -/
def SMap (w : World) (b n : Nat) (D : DataW Unit) : Prop := w.ownsMap Tryd.prog 9 (plainElem Tryd.prog 4) b n D
theorem SMap.below {w w' : World} {b n : Nat} {D : DataW Unit} (h : SMap w b n D) (hb : Below w.heap.size w w') : SMap w' b n D := World.ownsMap.kept h (Below.grow hb none) (by simp)
/-- the map holds the strings of the list, each with 'true' -/
def MapSIs (D : DataW Unit) (L : List (List UInt8)) : Prop :=
  Maps.IsMap D ∧ ∀ s : ByteArray, s.size ≤ 2147483648 → D.atKey (.string s.data.toList) (.lit (.bool false)) = .lit (.bool (decide (s.data.toList ∈ L)))
theorem MapSIs.nil : MapSIs (.map []) [] := ⟨Maps.isMap_empty, fun s he => by
  have h : Maps.has (.map [] : DataW Unit) (.string s.data.toList) = false := rfl
  rw [Maps.atKey_of_not_has h]; simp⟩
theorem MapSIs.put {D : DataW Unit} {L : List (List UInt8)} {s : ByteArray} (h : MapSIs D L) (he : s.size ≤ 2147483648) : MapSIs (D.put (.string s.data.toList) (.lit (.bool true))) (L ++ [s.data.toList]) := by
  have hk := keyedS.key (keyS he)
  refine ⟨h.1.put _ _, fun f hf => ?_⟩
  by_cases hfe : f.data.toList = s.data.toList
  · rw [hfe, Maps.atKey_put_same h.1 hk]
    simp
  · have hne : (Lit.string f.data.toList) ≠ .string s.data.toList := fun hh => hfe (by simpa using hh)
    rw [Maps.atKey_put_other hne, h.2 f hf]
    simp [hfe]
theorem SMap.look {w : World} {b n : Nat} {D : DataW Unit} {L : List (List UInt8)} (h : SMap w b n D) (hi : MapSIs D L) {s : ByteArray} (hs : s.size ≤ 2147483648) :
    (Instr.lookup 53 (.map (some b)) (.string s) false).run Tryd.prog w = .ok (.bool (decide (s.data.toList ∈ L))) w := by
  obtain ⟨c, hrun, hc⟩ := lookup_bool (t := 53) h keyedS Tryd.underlying53 Tryd.underlying4 (zero_bool w) (keyS hs)
  have h2 := hi.2 s hs
  rw [hc] at h2
  have : c = decide (s.data.toList ∈ L) := by simpa using h2
  rw [← this]; exact hrun
end Go.Proofs.YtpkgadjglidnaaaDoor
