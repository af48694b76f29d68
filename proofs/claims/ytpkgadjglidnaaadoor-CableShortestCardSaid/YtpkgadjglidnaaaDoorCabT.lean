/-
  alive of chapter 45, by a walk. Conditions: as stated. By an AI agent.
-/
import Derived.Test.YtpkgadjglidnaaaDoorCabS
namespace Go.Proofs.YtpkgadjglidnaaaDoor
open Go Go.ChangeShapes Go.WideShapes Go.RowKit Go.ChangeAt
set_option linter.unusedVariables false
set_option linter.unusedSimpArgs false

set_option maxHeartbeats 8000000 in
set_option maxRecDepth 20000 in
theorem alive_any (w : World) (hml : MaxLenIs w) : Calls Tryd.prog 11 #[] w fun e w' => e = .returned (.bool true) ∧ Below w.heap.size w w' := by
  have HML := Lib.hid hml
  clear hml
  go_enter Tryd.func11, Tryd.ntmps11
  go_wp2_with fail
  obtain ⟨w2, hw2⟩ : ∃ x, (((w.alloc (.cells cT3 28)).alloc (.cells cC3 34)).alloc (.cells #[.int .i64 0, .int .i64 0, .int .i64 0] 3)) = x := ⟨_, rfl⟩
  have HT : Hid (Blk w2 w.heap.size cT3 28) := by
    show _ = _
    rw [← hw2]
    exact (heapA_old _ _ _ (by simp <;> omega)).trans ((heapA_old _ _ _ (by simp)).trans (heapA_at _ _ _ rfl))
  have HC : Hid (Blk w2 (w.heap.size + 1) cC3 34) := by
    show _ = _
    rw [← hw2]
    exact (heapA_old _ _ _ (by simp)).trans (heapA_at _ _ _ (by simp))
  have HZ : Hid (Blk w2 (w.heap.size + 1 + 1) #[.int .i64 0, .int .i64 0, .int .i64 0] 3) := by
    show _ = _
    rw [← hw2]
    exact heapA_at _ _ _ (by simp)
  have hBw2 : Below w.heap.size w w2 := by rw [← hw2]; exact ((((Below.refl w.heap.size w).alloc (Nat.le_refl _) _).alloc (by simp) _).alloc (by simp <;> omega) _)
  have hsw2 : w.heap.size + 1 + 1 < w2.heap.size := by rw [← hw2]; simp
  replace HML := Lib.hid (HML.out.below hBw2)
  rw [hw2]
  clear hw2
  (go_at_call 16; refine (al1 _ _ _ (trays3 HT.out) (ints_lit HZ.out 3 _ (by decide) (fun i hi => by rcases lt3 hi with rfl | rfl | rfl <;> rfl)) HML.out).mono ?_; rintro e_ w3 ⟨pv, rfl, hpa, hb⟩)
  have hPw3 : Below w2.heap.size w2 w3 := below_step (w := w2) (by first | exact Below.refl _ _ | go_grown) hb
  have hsw3 := hPw3.size
  have hBw3 : Below w.heap.size w w3 := below_step hBw2 hPw3
  replace HT := Lib.hid (HT.out.below hPw3)
  replace HC := Lib.hid (HC.out.below hPw3)
  replace HML := Lib.hid (HML.out.below hPw3)
  have HP := Lib.hid hpa
  clear hpa HZ
  clear hb hPw3 hBw2 hsw2
  go_wp2_with fail
  (go_at_call 19; refine (al2 _ _ _ (trays3 (HT.out.below (by first | exact Below.refl _ _ | (show Below w3.heap.size w3 _; go_grown)))) (cabs3 (HC.out.below (by first | exact Below.refl _ _ | (show Below w3.heap.size w3 _; go_grown))) 2 (by decide)) (HML.out.below (by first | exact Below.refl _ _ | (show Below w3.heap.size w3 _; go_grown)))).mono ?_; rintro e_ w4 ⟨lv, rfl, hla, hb⟩)
  have hPw4 : Below w3.heap.size w3 w4 := below_step (w := w3) (by first | exact Below.refl _ _ | go_grown) hb
  have hsw4 := hPw4.size
  have hBw4 : Below w.heap.size w w4 := below_step hBw3 hPw4
  replace HT := Lib.hid (HT.out.below hPw4)
  replace HC := Lib.hid (HC.out.below hPw4)
  replace HML := Lib.hid (HML.out.below hPw4)
  replace HP := Lib.hid (HP.out.below hPw4)
  have HL := Lib.hid hla
  clear hla
  clear hb hPw4 hBw3 hsw3
  go_wp2_with fail
  (go_at_call 19; refine (al3 _ _ _ (trays3 (HT.out.below (by first | exact Below.refl _ _ | (show Below w4.heap.size w4 _; go_grown)))) (cabs3 (HC.out.below (by first | exact Below.refl _ _ | (show Below w4.heap.size w4 _; go_grown))) 3 (by decide)) (HML.out.below (by first | exact Below.refl _ _ | (show Below w4.heap.size w4 _; go_grown)))).mono ?_; rintro e_ w5 ⟨lv3, rfl, hb⟩)
  have hPw5 : Below w4.heap.size w4 w5 := below_step (w := w4) (by first | exact Below.refl _ _ | go_grown) hb
  have hsw5 := hPw5.size
  have hBw5 : Below w.heap.size w w5 := below_step hBw4 hPw5
  replace HT := Lib.hid (HT.out.below hPw5)
  replace HC := Lib.hid (HC.out.below hPw5)
  replace HML := Lib.hid (HML.out.below hPw5)
  replace HP := Lib.hid (HP.out.below hPw5)
  replace HL := Lib.hid (HL.out.below hPw5)
  clear hb hPw5 hBw4 hsw4
  go_wp2_with fail
  (go_at_call 22; refine (al4 _ _ _ _ (trays3 (HT.out.below (by first | exact Below.refl _ _ | (show Below w5.heap.size w5 _; go_grown)))) (cabs3 (HC.out.below (by first | exact Below.refl _ _ | (show Below w5.heap.size w5 _; go_grown))) 2 (by decide)) (HL.out.below (by first | exact Below.refl _ _ | (show Below w5.heap.size w5 _; go_grown))) (HML.out.below (by first | exact Below.refl _ _ | (show Below w5.heap.size w5 _; go_grown)))).mono ?_; rintro e_ w6 ⟨uv, rfl, hua, hb⟩)
  have hPw6 : Below w5.heap.size w5 w6 := below_step (w := w5) (by first | exact Below.refl _ _ | go_grown) hb
  have hsw6 := hPw6.size
  have hBw6 : Below w.heap.size w w6 := below_step hBw5 hPw6
  replace HT := Lib.hid (HT.out.below hPw6)
  replace HC := Lib.hid (HC.out.below hPw6)
  replace HML := Lib.hid (HML.out.below hPw6)
  replace HP := Lib.hid (HP.out.below hPw6)
  replace HL := Lib.hid (HL.out.below hPw6)
  have HU := Lib.hid hua
  clear hua
  clear hb hPw6 hBw5 hsw5
  have HQ1 : Hid (IPathsAt ((w6.alloc (.cells #[.int .i64 0] 3)).alloc (.cells #[.slice (some ⟨w6.heap.size, 0, none⟩) 1 1] 32)) (.slice (some ⟨w6.heap.size + 1, 0, none⟩) 1 1) 1 (fun _ => 1) (fun _ _ => 0)) := by
    have b1 : Blk ((w6.alloc (.cells #[.int .i64 0] 3)).alloc (.cells #[.slice (some ⟨w6.heap.size, 0, none⟩) 1 1] 32)) w6.heap.size #[.int .i64 0] 3 := (heapA_old _ _ _ (by simp)).trans (heapA_at _ _ _ rfl)
    have b2 : Blk ((w6.alloc (.cells #[.int .i64 0] 3)).alloc (.cells #[.slice (some ⟨w6.heap.size, 0, none⟩) 1 1] 32)) (w6.heap.size + 1) #[.slice (some ⟨w6.heap.size, 0, none⟩) 1 1] 32 := heapA_at _ _ _ (by simp)
    refine ⟨fun _ => .slice (some ⟨w6.heap.size, 0, none⟩) 1 1, slice_lit b2 1 1 1 _ (by decide) (by decide) (fun i j hi hj => ?_), fun k hk => ints_lit b1 1 _ (by decide) (fun i hi => ?_)⟩
    · obtain rfl : i = 0 := by omega
      obtain rfl : j = 0 := by omega
      rfl
    · obtain rfl : i = 0 := by omega
      rfl
  go_wp2_with fail
  (go_at_call 22; refine (al5 _ _ _ _ (trays3 (HT.out.below (by first | exact Below.refl _ _ | (show Below w6.heap.size w6 _; go_grown)))) (cabs3 (HC.out.below (by first | exact Below.refl _ _ | (show Below w6.heap.size w6 _; go_grown))) 1 (by decide)) HQ1.out (HML.out.below (by first | exact Below.refl _ _ | (show Below w6.heap.size w6 _; go_grown)))).mono ?_; rintro e_ w7 ⟨uv1, rfl, hb⟩)
  have hPw7 : Below w6.heap.size w6 w7 := below_step (w := w6) (by first | exact Below.refl _ _ | go_grown) hb
  have hsw7 := hPw7.size
  have hBw7 : Below w.heap.size w w7 := below_step hBw6 hPw7
  replace HT := Lib.hid (HT.out.below hPw7)
  replace HC := Lib.hid (HC.out.below hPw7)
  replace HML := Lib.hid (HML.out.below hPw7)
  replace HP := Lib.hid (HP.out.below hPw7)
  replace HL := Lib.hid (HL.out.below hPw7)
  replace HU := Lib.hid (HU.out.below hPw7)
  clear HQ1
  clear hb hPw7 hBw6 hsw6
  have HI1 : Hid (IntsAt (w7.alloc (.cells #[.int .i64 0, .int .i64 1] 3)) (.slice (some ⟨w7.heap.size, 0, none⟩) 2 2) 2 (pathF [0, 1])) := ints_lit (show Blk (w7.alloc (.cells #[.int .i64 0, .int .i64 1] 3)) w7.heap.size _ _ from heapA_at _ _ _ rfl) 2 _ (by decide) (fun i hi => by rcases (by omega : i = 0 ∨ i = 1) with rfl | rfl <;> rfl)
  go_wp2_with fail
  (go_at_call 18; refine (intsEq_any _ _ 2 (pathF [0, 1]) _ (HP.out.below (by first | exact Below.refl _ _ | (show Below w7.heap.size w7 _; go_grown))) HI1.out).mono ?_; rintro e_ w8 ⟨rfl, hb⟩)
  have hPw8 : Below w7.heap.size w7 w8 := below_step (w := w7) (by first | exact Below.refl _ _ | go_grown) hb
  have hsw8 := hPw8.size
  have hBw8 : Below w.heap.size w w8 := below_step hBw7 hPw8
  replace HT := Lib.hid (HT.out.below hPw8)
  replace HC := Lib.hid (HC.out.below hPw8)
  replace HML := Lib.hid (HML.out.below hPw8)
  replace HP := Lib.hid (HP.out.below hPw8)
  replace HL := Lib.hid (HL.out.below hPw8)
  replace HU := Lib.hid (HU.out.below hPw8)
  clear HI1
  clear hb hPw8 hBw7 hsw7
  have HQ2 : Hid (IPathsAt (((w8.alloc (.cells #[.int .i64 0, .int .i64 1] 3)).alloc (.cells #[.int .i64 2] 3)).alloc (.cells #[.slice (some ⟨w8.heap.size, 0, none⟩) 2 2, .slice (some ⟨w8.heap.size + 1, 0, none⟩) 1 1] 32)) (.slice (some ⟨w8.heap.size + 1 + 1, 0, none⟩) 2 2) 2 L2 f2) := by
    have b1 : Blk (((w8.alloc (.cells #[.int .i64 0, .int .i64 1] 3)).alloc (.cells #[.int .i64 2] 3)).alloc (.cells #[.slice (some ⟨w8.heap.size, 0, none⟩) 2 2, .slice (some ⟨w8.heap.size + 1, 0, none⟩) 1 1] 32)) w8.heap.size #[.int .i64 0, .int .i64 1] 3 := (heapA_old _ _ _ (by simp <;> omega)).trans ((heapA_old _ _ _ (by simp)).trans (heapA_at _ _ _ rfl))
    have b2 : Blk (((w8.alloc (.cells #[.int .i64 0, .int .i64 1] 3)).alloc (.cells #[.int .i64 2] 3)).alloc (.cells #[.slice (some ⟨w8.heap.size, 0, none⟩) 2 2, .slice (some ⟨w8.heap.size + 1, 0, none⟩) 1 1] 32)) (w8.heap.size + 1) #[.int .i64 2] 3 := (heapA_old _ _ _ (by simp)).trans (heapA_at _ _ _ (by simp))
    have b3 : Blk (((w8.alloc (.cells #[.int .i64 0, .int .i64 1] 3)).alloc (.cells #[.int .i64 2] 3)).alloc (.cells #[.slice (some ⟨w8.heap.size, 0, none⟩) 2 2, .slice (some ⟨w8.heap.size + 1, 0, none⟩) 1 1] 32)) (w8.heap.size + 1 + 1) #[.slice (some ⟨w8.heap.size, 0, none⟩) 2 2, .slice (some ⟨w8.heap.size + 1, 0, none⟩) 1 1] 32 := heapA_at _ _ _ (by simp)
    refine ⟨fun k => if k = 0 then .slice (some ⟨w8.heap.size, 0, none⟩) 2 2 else .slice (some ⟨w8.heap.size + 1, 0, none⟩) 1 1, slice_lit b3 2 2 1 _ (by decide) (by decide) (fun i j hi hj => ?_), fun k hk => ?_⟩
    · obtain rfl : j = 0 := by omega
      rcases (by omega : i = 0 ∨ i = 1) with rfl | rfl <;> rfl
    · rcases (by omega : k = 0 ∨ k = 1) with rfl | rfl
      · exact ints_lit b1 2 _ (by decide) (fun i hi => by rcases (by omega : i = 0 ∨ i = 1) with rfl | rfl <;> rfl)
      · exact ints_lit b2 1 _ (by decide) (fun i hi => by obtain rfl : i = 0 := by omega
                                                          rfl)
  go_wp2_with fail
  (go_at_call 21; refine (sameEq_any _ _ 2 L2 f2 _ (HL.out.below (by first | exact Below.refl _ _ | (show Below w8.heap.size w8 _; go_grown))) HQ2.out).mono ?_; rintro e_ w9 ⟨rfl, hb⟩)
  have hPw9 : Below w8.heap.size w8 w9 := below_step (w := w8) (by first | exact Below.refl _ _ | go_grown) hb
  have hsw9 := hPw9.size
  have hBw9 : Below w.heap.size w w9 := below_step hBw8 hPw9
  replace HT := Lib.hid (HT.out.below hPw9)
  replace HC := Lib.hid (HC.out.below hPw9)
  replace HML := Lib.hid (HML.out.below hPw9)
  replace HP := Lib.hid (HP.out.below hPw9)
  replace HL := Lib.hid (HL.out.below hPw9)
  replace HU := Lib.hid (HU.out.below hPw9)
  clear HQ2
  clear hb hPw9 hBw8 hsw8
  have HI3 : Hid (IntsAt (w9.alloc (.cells #[.int .i64 1, .int .i64 1, .int .i64 1] 3)) (.slice (some ⟨w9.heap.size, 0, none⟩) 3 3) 3 (fun _ => 1)) := ints_lit (show Blk (w9.alloc (.cells #[.int .i64 1, .int .i64 1, .int .i64 1] 3)) w9.heap.size _ _ from heapA_at _ _ _ rfl) 3 _ (by decide) (fun i hi => by rcases lt3 hi with rfl | rfl | rfl <;> rfl)
  go_wp2_with fail
  (go_at_call 18; refine (intsEq_any _ _ 3 (fun _ => 1) _ (HU.out.below (by first | exact Below.refl _ _ | (show Below w9.heap.size w9 _; go_grown))) HI3.out).mono ?_; rintro e_ w10 ⟨rfl, hb⟩)
  have hPw10 : Below w9.heap.size w9 w10 := below_step (w := w9) (by first | exact Below.refl _ _ | go_grown) hb
  have hsw10 := hPw10.size
  have hBw10 : Below w.heap.size w w10 := below_step hBw9 hPw10
  replace HT := Lib.hid (HT.out.below hPw10)
  replace HC := Lib.hid (HC.out.below hPw10)
  replace HML := Lib.hid (HML.out.below hPw10)
  replace HP := Lib.hid (HP.out.below hPw10)
  replace HL := Lib.hid (HL.out.below hPw10)
  replace HU := Lib.hid (HU.out.below hPw10)
  clear HI3
  clear hb hPw10 hBw9 hsw9
  go_wp2_with fail
  (go_at_call 12; refine (al7 _).mono ?_; rintro e_ w11 ⟨rfl, hb⟩)
  have hPw11 : Below w10.heap.size w10 w11 := below_step (w := w10) (by first | exact Below.refl _ _ | go_grown) hb
  have hsw11 := hPw11.size
  have hBw11 : Below w.heap.size w w11 := below_step hBw10 hPw11
  replace HT := Lib.hid (HT.out.below hPw11)
  replace HC := Lib.hid (HC.out.below hPw11)
  replace HML := Lib.hid (HML.out.below hPw11)
  replace HP := Lib.hid (HP.out.below hPw11)
  replace HL := Lib.hid (HL.out.below hPw11)
  replace HU := Lib.hid (HU.out.below hPw11)
  clear hb hPw11 hBw10 hsw10
  go_wp2_with fail
  (go_at_call 14; refine (al6 _ _ _ (trays3 (HT.out.below (by first | exact Below.refl _ _ | (show Below w11.heap.size w11 _; go_grown)))) (cabs3 (HC.out.below (by first | exact Below.refl _ _ | (show Below w11.heap.size w11 _; go_grown))) 3 (by decide)) (HML.out.below (by first | exact Below.refl _ _ | (show Below w11.heap.size w11 _; go_grown)))).mono ?_; rintro e_ w12 ⟨rfl, hb⟩)
  have hPw12 : Below w11.heap.size w11 w12 := below_step (w := w11) (by first | exact Below.refl _ _ | go_grown) hb
  have hsw12 := hPw12.size
  have hBw12 : Below w.heap.size w w12 := below_step hBw11 hPw12
  replace HT := Lib.hid (HT.out.below hPw12)
  replace HC := Lib.hid (HC.out.below hPw12)
  replace HML := Lib.hid (HML.out.below hPw12)
  replace HP := Lib.hid (HP.out.below hPw12)
  replace HL := Lib.hid (HL.out.below hPw12)
  replace HU := Lib.hid (HU.out.below hPw12)
  clear hb hPw12 hBw11 hsw11
  go_wp2
  go_returns
  exact ⟨rfl, hBw12⟩
end Go.Proofs.YtpkgadjglidnaaaDoor
