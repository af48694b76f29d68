/-
  The chapter's examples. Conditions: none. By an AI agent.
-/
import Derived.Test.YtdpppklelfmcjaaPipeJ
import Derived.Test.YtdpppklelfmcjaaPipeK
import Derived.Outline
namespace Go.Proofs.Ytdpppklelfmcjaa
open Go Go.ChangeShapes Go.WideShapes Go.RowKit Go.ChangeAt
set_option linter.unusedSimpArgs false
set_option linter.unusedVariables false

theorem slice_built {w : World} {cs : Array Value} {t : TypeId} {n sz : Nat} {f : Nat → Nat → Value} (hn : n ≤ 9223372036854775807) (hf : ∀ i j, i < n → j < sz → cs[i * sz + j]? = some (f i j)) : SliceAt (w.alloc (.cells cs t)) (.slice (some ⟨w.heap.size, 0, none⟩) n n) n sz f := by
  refine ⟨_, n, rfl, Nat.le_refl _, hn, fun _ => ⟨w.heap.size, 0, rfl, by simp, fun i j hi hj => ?_⟩⟩
  rw [cell_of_row _ _ _ cs t (0, 0) (MapKept.heap_alloc w _).1, Nat.zero_add]
  exact hf i j hi hj
def aX (i : Nat) : Int := match i with | 0 => 0 | _ => 500
def aY (i : Nat) : Int := match i with | 2 => 300 | _ => 0
def aZ (_ : Nat) : Int := 0
def bX (_ : Nat) : Int := 7
def bZ (i : Nat) : Int := match i with | 0 => 0 | _ => -9
def aG (i : Nat) : Int := match i with | 0 => 500 | _ => 300
theorem aw_len : lengthF 3 aX aY aZ 100 = 757 := by decide +kernel
theorem aw_chk : checkF 3 aX aY aZ 100 = 0 := by decide +kernel
theorem aw_chk2 : checkF 3 aX aY aZ 301 = 18 := by decide +kernel
theorem aw_len2 : lengthF 2 bX aZ bZ 5 = 9 := by decide +kernel
theorem aw_chk3 : checkF 2 bX aZ bZ 5 = 0 := by decide +kernel
theorem aw_turn : turnOf (dirV bX aZ bZ) = 7 := by decide +kernel
theorem aw_legs : legN 3 aX aY aZ = 2 := by decide +kernel
theorem aw_same : sameF 2 2 (legV aX aY aZ) aG = true := by decide +kernel
theorem aw_bends : mx ((3 : Nat) - 2 : Int) 0 = 1 := by decide +kernel
theorem aw_parte : partE 2 bX aZ bZ 5 = 0 := by unfold partE; rw [if_pos aw_chk3, if_pos (by rw [aw_len2]; decide)]
theorem aw_part : partF ⟨#[83, 49]⟩ ⟨#[66, 49]⟩ ⟨#[65]⟩ ⟨#[80]⟩ 2 bX aZ bZ 5 = .agg #[.string ⟨#[83, 49]⟩, .int .i64 1, .int .i64 3, .string ⟨#[66, 49]⟩, .string ⟨#[65]⟩, .int .i64 0, .slice none 0 0, .slice none 0 0, .string ⟨#[80]⟩, .int .i64 9, .int .i64 0, .int .i64 0, .int .i64 0, .int .i64 0, .int .i64 7, .int .i64 0, .int .i64 0, .int .i64 7] := by
  unfold partF
  rw [if_pos ⟨aw_chk3, by rw [aw_len2]; decide⟩, aw_len2, aw_turn]
  rfl
set_option maxRecDepth 20000 in
set_option maxHeartbeats 4000000 in
theorem awake_any  (w : World)  :
    Calls Try.prog 10 #[] w fun e w' => e = .returned (.bool true) ∧ Below w.heap.size w w' := by
  have HV0 : Hid (VecsAt (w.alloc (.cells #[.int .i64 0, .int .i64 0, .int .i64 0, .int .i64 500, .int .i64 0, .int .i64 0, .int .i64 500, .int .i64 300, .int .i64 0] 40)) (.slice (some ⟨w.heap.size, 0, none⟩) 3 3) 3 aX aY aZ) := slice_built (by decide) (fun i j hi hj => by rcases (by omega : i = 0 ∨ i = 1 ∨ i = 2) with rfl | rfl | rfl <;> rcases (by omega : j = 0 ∨ j = 1 ∨ j = 2) with rfl | rfl | rfl <;> rfl)
  have HBc : Hid (Below w.heap.size w (w.alloc (.cells #[.int .i64 0, .int .i64 0, .int .i64 0, .int .i64 500, .int .i64 0, .int .i64 0, .int .i64 500, .int .i64 300, .int .i64 0] 40))) := (Below.refl _ _).alloc (Nat.le_refl _) _
  go_enter Try.func10, Try.ntmps10
  go_wp2_with fail
  (go_at_call 13; refine (length_pts _ _ _ _ _ _ _ HV0.out).mono ?_; rintro e w1 ⟨rfl, hb⟩)
  rw [aw_len, aw_chk]
  have HV1 := Lib.hid (HV0.out.below hb)
  have HB1 := Lib.hid (below_step (w := w) HBc.out hb)
  clear hb HV0 HBc
  have HVb : Hid (VecsAt (w1.alloc (.cells #[.int .i64 7, .int .i64 0, .int .i64 0, .int .i64 7, .int .i64 0, .int .i64 (-9)] 40)) (.slice (some ⟨w1.heap.size, 0, none⟩) 2 2) 2 bX aZ bZ) := slice_built (by decide) (fun i j hi hj => by rcases (by omega : i = 0 ∨ i = 1) with rfl | rfl <;> rcases (by omega : j = 0 ∨ j = 1 ∨ j = 2) with rfl | rfl | rfl <;> rfl)
  go_wp2_with fail
  (go_at_call 20; refine (part_pts _ _ _ _ _ _ _ _ _ _ _ HVb.out).mono ?_; rintro e w2 ⟨rfl, hb⟩)
  rw [aw_part, aw_parte]
  have HV2 := Lib.hid ((HV1.out.below ((Below.refl _ _).alloc (Nat.le_refl _) _)).below hb)
  have HB2 := Lib.hid (below_step (w := w) (HB1.out.alloc HB1.out.size _) hb)
  clear hb HV1 HVb
  go_wp2_with (with_reducible refine wpList_store_all 44 w2.heap.size 18 _ 44 part_size rfl rfl rfl rfl (⟨_, (MapKept.heap_alloc w2 _).1, rfl⟩) ?_; intro w3 hs)
  have hb23 : Below w2.heap.size w2 w3 := Stored.below ((Below.refl _ _).alloc (Nat.le_refl _) _) hs (Nat.le_refl _)
  have HV3 := Lib.hid (HV2.out.below hb23)
  have HB3 := Lib.hid (below_step (w := w) HB2.out hb23)
  have HQ := Lib.hid hs.here
  have z3 : w2.heap.size < w3.heap.size := (Array.getElem?_eq_some_iff.1 hs.here).1
  clear hs hb23 HV2
  have HQ3 := HQ
  go_wp2_with fail
  (go_at_call 11; refine (check_pts _ _ _ _ _ _ _ HV3.out).mono ?_; rintro e w4 ⟨rfl, hb⟩)
  rw [aw_chk2]
  have HV4 := Lib.hid (HV3.out.below hb)
  have HB4 := Lib.hid (below_step (w := w) HB3.out hb)
  have HQ4 := Lib.hid ((hb.block _ z3).trans HQ3.out)
  have z4 : w2.heap.size < w4.heap.size := (Array.getElem?_eq_some_iff.1 HQ4.out).1
  clear hb
  go_wp2_with fail
  (go_at_call 11; refine (check_pts _ _ _ _ _ _ _ HV4.out).mono ?_; rintro e w5 ⟨rfl, hb⟩)
  rw [aw_chk]
  have HV5 := Lib.hid (HV4.out.below hb)
  have HB5 := Lib.hid (below_step (w := w) HB4.out hb)
  have HQ5 := Lib.hid ((hb.block _ z4).trans HQ4.out)
  have z5 : w2.heap.size < w5.heap.size := (Array.getElem?_eq_some_iff.1 HQ5.out).1
  clear hb
  go_wp2_with fail
  (go_at_call 15; refine (bends_val _ HV5.out aw_bends).mono ?_; rintro e w6 ⟨rfl, hb⟩)
  have HV6 := Lib.hid (HV5.out.below hb)
  have HB6 := Lib.hid (below_step (w := w) HB5.out hb)
  have HQ6 := Lib.hid ((hb.block _ z5).trans HQ5.out)
  have z6 : w2.heap.size < w6.heap.size := (Array.getElem?_eq_some_iff.1 HQ6.out).1
  clear hb
  go_wp2_with fail
  (go_at_call 18; refine (legs_any _ _ _ _ _ _ HV6.out (by decide)).mono ?_; rintro e w7 ⟨l, rfl, hl, -, hb⟩)
  rw [aw_legs] at hl
  have HB7 := Lib.hid (below_step (w := w) HB6.out hb)
  have HQ7 := Lib.hid ((hb.block _ z6).trans HQ6.out)
  have z7 : w2.heap.size < w7.heap.size := (Array.getElem?_eq_some_iff.1 HQ7.out).1
  have HL7 := Lib.hid hl
  clear hb hl
  have HG : Hid (IntsAt (w7.alloc (.cells #[.int .i64 500, .int .i64 300] 3)) (.slice (some ⟨w7.heap.size, 0, none⟩) 2 2) 2 aG) := slice_built (by decide) (fun i j hi hj => by rcases (by omega : i = 0 ∨ i = 1) with rfl | rfl <;> rcases (by omega : j = 0) with rfl <;> rfl)
  go_wp2_with fail
  (go_at_call 17; refine (sameInts_any _ _ _ _ _ _ _ (HL7.out.below ((Below.refl _ _).alloc (Nat.le_refl _) _)) HG.out).mono ?_; rintro e w8 ⟨rfl, hb⟩)
  rw [aw_same]
  have HB8 := Lib.hid (below_step (w := w) (HB7.out.alloc HB7.out.size _) hb)
  have hq8 := ((hb.block _ (by simp; omega)).trans (heapA_old _ _ _ z7)).trans HQ7.out
  obtain ⟨c0, c1, c2, c3, c4, c5, c6, c7, c8, c9, c10, c11, c12, c13, c14, c15, c16, c17, cf, cs⟩ := cells_at18 hq8
  clear hb hq8 HG HL7
  go_wp2
  go_returns
  exact ⟨rfl, HB8.out⟩
end Go.Proofs.Ytdpppklelfmcjaa
