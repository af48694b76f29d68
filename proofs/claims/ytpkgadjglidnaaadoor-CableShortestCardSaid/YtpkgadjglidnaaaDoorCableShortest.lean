/-
  The law CableShortest. Conditions: as stated. By an AI agent.
-/
import Derived.Test.YtpkgadjglidnaaaDoorCabT
import Derived.Test.YtpkgadjglidnaaaDoorCabV
import Derived.Test.YtpkgadjglidnaaaDoorCabX
import Derived.Test.YtpkgadjglidnaaaDoorCabM
import Derived.Test.YtpkgadjglidnaaaDoorCabE
import Derived.Test.YtpkgadjglidnaaaDoorRelw
namespace Go.Proofs.YtpkgadjglidnaaaDoor
open Go Go.ChangeShapes Go.WideShapes Go.RowKit Go.ChangeAt
set_option linter.unusedVariables false
set_option linter.unusedSimpArgs false

def Stay.ints (n : Nat) (f : Nat → Int) : Stay := ⟨fun v w => IntsAt w v n f, fun _ _ _ hb h => h.below hb⟩
def Stay.path (P : List Nat) : Stay := ⟨fun v w => PathAt w v P, fun _ _ _ hb h => h.below hb⟩
def Stay.rt (P : List Nat) (D E : Int) : Stay := ⟨fun v w => ∃ pv, v = .tuple #[pv, .int .i64 D, .int .i64 E] ∧ PathAt w pv P, fun _ _ _ hb ⟨pv, h1, h2⟩ => ⟨pv, h1, h2.below hb⟩⟩

theorem short_facts {n : Nat} {T : Nat → Tr} {c : Cb} (hc : checkF n T 1 (fun _ => c) = 0) :
    (routeErr n T n (fun _ => 0) c = 0 ∨ routeErr n T n (fun _ => 0) c = 8) ∧ idxB n (pathF (routeP n T n (fun _ => 0) c)) (routeP n T n (fun _ => 0) c).length = true ∧ (routeP n T n (fun _ => 0) c).length ≤ 255000000 ∧
    (∀ q, q < (routeP n T n (fun _ => 0) c).length → c.sz ≤ (T (pathF (routeP n T n (fun _ => 0) c) q).toNat).S) ∧
    (routeErr n T n (fun _ => 0) c = 0 → isWayB T c.fr c.to (pathF (routeP n T n (fun _ => 0) c)) (routeP n T n (fun _ => 0) c).length = true ∧ sumF T (pathF (routeP n T n (fun _ => 0) c)) (routeP n T n (fun _ => 0) c).length = routeD n T n (fun _ => 0) c) := by
  have he : routeErr n T n (fun _ => 0) c = 0 ∨ routeErr n T n (fun _ => 0) c = 8 := by
    rw [(route0 hc).1]; split <;> simp
  by_cases h0 : routeErr n T n (fun _ => 0) c = 0
  · obtain ⟨hw, hnd, h1, h2, h3⟩ := route_facts h0
    refine ⟨he, h3, routeP_len h0, fun q hq => ?_, fun _ => ⟨h1, h2⟩⟩
    have hu := (wk_use hw ((routeP n T n (fun _ => 0) c).getD q 0) (by rw [List.getD_eq_getElem?_getD, List.getElem?_eq_getElem hq]; exact List.getElem_mem hq)).2
    unfold usU at hu
    have := of_decide_eq_true hu
    rw [pathF_toNat]
    dsimp only at this
    omega
  · have hp := (routeP_no h0).1
    rw [hp]
    exact ⟨he, rfl, by decide, fun q hq => absurd hq (by simp), fun h => absurd h h0⟩
theorem short_bad {n : Nat} {T : Nat → Tr} {c : Cb} (hc : checkF n T 1 (fun _ => c) ≠ 0) : routeErr n T n (fun _ => 0) c ≠ 0 ∧ routeP n T n (fun _ => 0) c = [] ∧ routeD n T n (fun _ => 0) c = 0 := by
  have h := routeErr_1 (nu := n) (F := fun _ => 0) hc
  have h0 : routeErr n T n (fun _ => 0) c ≠ 0 := by rw [h]; exact hc
  exact ⟨h0, (routeP_no h0).1, (routeP_no h0).2⟩

set_option maxHeartbeats 8000000 in
set_option maxRecDepth 20000 in
theorem cableShortest_walk (v u : Value) (n nu : Nat) (T : Nat → Tr) (f : Nat → Int) (ci : ByteArray) (cf ct cs : Int) (w : World) (ht : TraysAt w v n T) (hu : IntsAt w u nu f) (hml : MaxLenIs w) : Calls Tryd.prog 7 #[v, .agg #[.string ci, .int .i64 cf, .int .i64 ct, .int .i64 cs], u] w fun e w' => e = .returned (.bool true) ∧ Below w.heap.size w w' := by
  have HML := Lib.hid hml
  clear hml
  have hBw : Below w.heap.size w w := Below.refl _ _
  have HT := Lib.hid ht
  have HU := Lib.hid hu
  obtain ⟨oa, ca, rfl, hn9, hel⟩ := ht.form
  obtain ⟨ou, cu, rfl, hnu9, hul⟩ := hu.form
  have HEL := Lib.hid hel
  have HUL := Lib.hid hul
  clear ht hu hel hul
  obtain ⟨GR, hGR⟩ : ∃ b, greatB n 1 (fun _ => ⟨ci, cf, ct, cs⟩) = b := ⟨_, rfl⟩
  have HGR := Lib.hid hGR
  clear hGR
  go_enter Tryd.func7, Tryd.ntmps7
  go_wp2_with fail
  obtain ⟨w2, hw2⟩ : ∃ x, ((w.alloc (.cells #[.string ci, .int .i64 cf, .int .i64 ct, .int .i64 cs] 34)).alloc (.cells #[.string ci, .int .i64 cf, .int .i64 ct, .int .i64 cs] 34)) = x := ⟨_, rfl⟩
  have HBX : Hid (Blk w2 w.heap.size #[.string ci, .int .i64 cf, .int .i64 ct, .int .i64 cs] 34) := by
    show _ = _
    rw [← hw2]
    exact (heapA_old _ _ _ (by simp)).trans (heapA_at _ _ _ rfl)
  have HB1 : Hid (Blk w2 (w.heap.size + 1) #[.string ci, .int .i64 cf, .int .i64 ct, .int .i64 cs] 34) := by
    show _ = _
    rw [← hw2]
    exact heapA_at _ _ _ (by simp)
  have hBw2 : Below w.heap.size w w2 := by rw [← hw2]; exact (((Below.refl w.heap.size w).alloc (Nat.le_refl _) _).alloc (by simp) _)
  rw [hw2]
  clear hw2
  replace HML := Lib.hid (HML.out.below hBw2)
  replace HT := Lib.hid (HT.out.below hBw2)
  replace HU := Lib.hid (HU.out.below hBw2)
  (go_at_call 10; refine (great_any _ _ n 1 T (fun _ => ⟨ci, cf, ct, cs⟩) _ HT.out (one_cab w2 (w.heap.size + 1) ci cf ct cs 34 HB1.out)).mono ?_; rintro e_ w3 ⟨rfl, hb⟩)
  have hPw3 : Below w2.heap.size w2 w3 := below_step (w := w2) (by first | exact Below.refl _ _ | go_grown) hb
  have hBw3 : Below w.heap.size w w3 := below_step hBw2 hPw3
  replace HML := Lib.hid (HML.out.below hPw3)
  replace HT := Lib.hid (HT.out.below hPw3)
  replace HU := Lib.hid (HU.out.below hPw3)
  replace HBX := Lib.hid (HBX.out.below hPw3)
  rw [HGR.out]
  clear HB1
  clear hb hPw3 hBw2
  cases GR
  rotate_left
  · go_wp2_with fail
    (go_at_call 11; refine (alive_any _ (HML.out.below (by first | exact Below.refl _ _ | (show Below w3.heap.size w3 _; go_grown)))).mono ?_; rintro e_ wz ⟨rfl, hb⟩)
    have hPwz : Below w3.heap.size w3 wz := below_step (w := w3) (by first | exact Below.refl _ _ | go_grown) hb
    have hBwz : Below w.heap.size w wz := below_step hBw3 hPwz
    clear hb hPwz hBw3
    go_wp2
    go_returns
    exact ⟨rfl, hBwz⟩
  have hs := (greatB_no HGR.out).2.2 0 (by omega)
  have hn70 := (greatB_no HGR.out).1
  by_cases h70 : 70 < nu
  · have k7 : decide ((70 : Int) < (nu : Int)) = true := decide_eq_true (by omega)
    go_wp2_with fail
    (go_at_call 11; refine (alive_any _ (HML.out.below (by first | exact Below.refl _ _ | (show Below w3.heap.size w3 _; go_grown)))).mono ?_; rintro e_ wz ⟨rfl, hb⟩)
    have hPwz : Below w3.heap.size w3 wz := below_step (w := w3) (by first | exact Below.refl _ _ | go_grown) hb
    have hBwz : Below w.heap.size w wz := below_step hBw3 hPwz
    clear hb hPwz hBw3
    go_wp2
    go_returns
    exact ⟨rfl, hBwz⟩
  have k7 : decide ((70 : Int) < (nu : Int)) = false := decide_eq_false (by omega)
  have hnu70 : nu ≤ 70 := by omega
  obtain ⟨E, hE⟩ : ∃ e, routeErr n T n (fun _ => 0) ⟨ci, cf, ct, cs⟩ = e := ⟨_, rfl⟩
  obtain ⟨D, hD⟩ : ∃ e, routeD n T n (fun _ => 0) ⟨ci, cf, ct, cs⟩ = e := ⟨_, rfl⟩
  obtain ⟨PR, hPR⟩ : ∃ e, routeP n T n (fun _ => 0) ⟨ci, cf, ct, cs⟩ = e := ⟨_, rfl⟩
  obtain ⟨CE, hCE⟩ : ∃ e, checkF n T 1 (fun _ => ⟨ci, cf, ct, cs⟩) = e := ⟨_, rfl⟩
  have HCE := Lib.hid hCE
  have HE := Lib.hid hE
  have HD := Lib.hid hD
  have HPR := Lib.hid hPR
  have HRT : Hid (∀ W u c, TraysAt W u n T → IntsAt W c n (fun _ => 0) → MaxLenIs W → Calls Tryd.prog 16 #[u, c, .agg #[.string ci, .int .i64 cf, .int .i64 ct, .int .i64 cs]] W fun e w' => ∃ pv, e = .returned (.tuple #[pv, .int .i64 D, .int .i64 E]) ∧ PathAt w' pv PR ∧ Below W.heap.size W w') := fun W u c h1 h2 h3 => by
    refine (route_any u c n n T (fun _ => 0) ci cf ct cs W h1 h2 hs h3).mono ?_
    rintro e w' ⟨pv, rfl, h4, -, hb⟩
    rw [hD, hE]
    rw [hPR] at h4
    exact ⟨pv, rfl, h4, hb⟩
  clear hE hD hPR hCE h70
  have HMK : Hid (∀ W, (Instr.makeSlice 32 (.int .i64 (n : Int)) (.int .i64 (n : Int))).run Tryd.prog W = .ok (.slice (some ⟨W.heap.size, 0, none⟩) n n) (W.alloc (.cells (arrI n (fun _ => 0)) 3))) := fun W => by
    obtain ⟨i0, hi0, hz0, hs0, hb0⟩ := info1_parts info_int
    have h := run_make_row (P := Tryd.prog) 32 3 i0 _ Tryd.underlying32 hi0 hz0 hs0 rfl .i64 .i64 n (by rw [hb0]; omega) (by omega) W
    rw [madeI] at h
    exact h
  obtain ⟨x0, x1, x2, x3, xf, xs⟩ := cells_at4 (show _ = _ from HBX.out)
  have zbx : w.heap.size < w3.heap.size := block_lt HBX.out
  have HTx := Lib.hid HT.out
  have HMx := Lib.hid HML.out
  go_wp2_with fail
  refine wp_region_relw 13 (by kernel_rfl) (by kernel_rfl) (by kernel_rfl) ?_
  simp only [List.take_succ_cons, List.take_zero, fillL, Act.put, List.setIfInBounds_toArray, List.set_cons_zero, List.set_cons_succ]
  iterate 3
    apply rel_is
    · intro u wx hb hd
      have hz := hb.size
      (try simp only [World.size_alloc, World.size_setCell] at hz)
      have hz0 : w.heap.size < wx.heap.size := by omega
      obtain ⟨hc, hf⟩ := bcell hb
      have HBY := Lib.hid hb
      clear hb hz
      simp [depsS, Region.binds, updS, Stay.is, Stay.any] at hd
      go_simp
      first | exact ⟨Below.refl _ _, rfl⟩ | rfl
  refine rel_new (Stay.ints n (fun _ => 0)) ?_ ?_
  · intro u wx hb hd
    have hz := hb.size
    (try simp only [World.size_alloc, World.size_setCell] at hz)
    have hz0 : w.heap.size < wx.heap.size := by omega
    obtain ⟨hc, hf⟩ := bcell hb
    have HBY := Lib.hid hb
    clear hb hz
    simp [depsS, Region.binds, updS, Stay.is, Stay.any] at hd
    refine ⟨by simp [Region.wanted, yielded, hd], ?_⟩
    have hmk := HMK.out wx
    go_simp
    exact ⟨(Below.refl _ _).alloc (Nat.le_refl _) _, ints_of (heapA_at _ _ _ rfl) (by omega)⟩
  apply rel_is
  · intro u wx hb hd
    have hz := hb.size
    (try simp only [World.size_alloc, World.size_setCell] at hz)
    have hz0 : w.heap.size < wx.heap.size := by omega
    obtain ⟨hc, hf⟩ := bcell hb
    have HBY := Lib.hid hb
    clear hb hz
    simp [depsS, Region.binds, updS, Stay.is, Stay.any] at hd
    go_simp
    first | exact ⟨Below.refl _ _, rfl⟩ | rfl
  refine rel_new (Stay.rt (PR) (D) (E)) ?_ ?_
  · intro u wx hb hd
    have hz := hb.size
    (try simp only [World.size_alloc, World.size_setCell] at hz)
    have hz0 : w.heap.size < wx.heap.size := by omega
    obtain ⟨hc, hf⟩ := bcell hb
    have HBY := Lib.hid hb
    clear hb hz
    simp [depsS, Region.binds, updS, Stay.is, Stay.any] at hd
    refine ⟨by simp [Region.wanted, yielded, hd], ?_⟩
    have hin := hd.2.1
    go_simp
    (go_at_call 16; refine (HRT.out _ _ _ (HTx.out.below HBY.out) hin (HMx.out.below HBY.out)).mono ?_; rintro e w9 ⟨pv', rfl, hpa', hb1⟩)
    first | exact ⟨hb1, pv', rfl, hpa'⟩ | exact ⟨_, rfl, hb1, pv', rfl, hpa'⟩
  refine rel_new (Stay.rt (PR) (D) (E)) ?_ ?_
  · intro u wx hb hd
    have hz := hb.size
    (try simp only [World.size_alloc, World.size_setCell] at hz)
    have hz0 : w.heap.size < wx.heap.size := by omega
    obtain ⟨hc, hf⟩ := bcell hb
    have HBY := Lib.hid hb
    clear hb hz
    simp [depsS, Region.binds, updS, Stay.is, Stay.any] at hd
    refine ⟨by simp [Region.wanted, yielded, hd], ?_⟩
    have hrt := hd
    go_simp
    first | exact ⟨Below.refl _ _, hrt⟩ | exact Below.refl _ _
  refine rel_new (Stay.path (PR)) ?_ ?_
  · intro u wx hb hd
    have hz := hb.size
    (try simp only [World.size_alloc, World.size_setCell] at hz)
    have hz0 : w.heap.size < wx.heap.size := by omega
    obtain ⟨hc, hf⟩ := bcell hb
    have HBY := Lib.hid hb
    clear hb hz
    simp [depsS, Region.binds, updS, Stay.is, Stay.any] at hd
    refine ⟨by simp [Region.wanted, yielded, hd], ?_⟩
    obtain ⟨pv', hpv', hpa'⟩ := hd
    have HPA' := Lib.hid hpa'
    clear hpa'
    go_simp
    first | exact ⟨Below.refl _ _, HPA'.out⟩ | exact Below.refl _ _
  apply rel_is
  · intro u wx hb hd
    have hz := hb.size
    (try simp only [World.size_alloc, World.size_setCell] at hz)
    have hz0 : w.heap.size < wx.heap.size := by omega
    obtain ⟨hc, hf⟩ := bcell hb
    have HBY := Lib.hid hb
    clear hb hz
    simp [depsS, Region.binds, updS, Stay.is, Stay.any] at hd
    obtain ⟨pv', hpv', hpa'⟩ := hd
    clear hpa'
    go_simp
    first | exact ⟨Below.refl _ _, rfl⟩ | rfl
  apply rel_is
  · intro u wx hb hd
    have hz := hb.size
    (try simp only [World.size_alloc, World.size_setCell] at hz)
    have hz0 : w.heap.size < wx.heap.size := by omega
    obtain ⟨hc, hf⟩ := bcell hb
    have HBY := Lib.hid hb
    clear hb hz
    simp [depsS, Region.binds, updS, Stay.is, Stay.any] at hd
    obtain ⟨pv', hpv', hpa'⟩ := hd
    clear hpa'
    go_simp
    first | exact ⟨Below.refl _ _, rfl⟩ | rfl
  refine rel_new (Stay.path (PR)) ?_ ?_
  · intro u wx hb hd
    have hz := hb.size
    (try simp only [World.size_alloc, World.size_setCell] at hz)
    have hz0 : w.heap.size < wx.heap.size := by omega
    obtain ⟨hc, hf⟩ := bcell hb
    have HBY := Lib.hid hb
    clear hb hz
    simp [depsS, Region.binds, updS, Stay.is, Stay.any] at hd
    refine ⟨by simp [Region.wanted, yielded, hd], ?_⟩
    have hpth := hd
    go_simp
    first | exact ⟨Below.refl _ _, hpth⟩ | exact Below.refl _ _
  iterate 2
    apply rel_is
    · intro u wx hb hd
      have hz := hb.size
      (try simp only [World.size_alloc, World.size_setCell] at hz)
      have hz0 : w.heap.size < wx.heap.size := by omega
      obtain ⟨hc, hf⟩ := bcell hb
      have HBY := Lib.hid hb
      clear hb hz
      simp [depsS, Region.binds, updS, Stay.is, Stay.any] at hd
      go_simp
      first | exact ⟨Below.refl _ _, rfl⟩ | rfl
  intro u w4 hb hE
  have e0 : u 0 = _ := endS_get hE 0 (by decide)
  have e1 : u 1 = _ := endS_get hE 1 (by decide)
  have e2 : u 2 = _ := endS_get hE 2 (by decide)
  have e4 : u 4 = _ := endS_get hE 4 (by decide)
  have e8 : u 8 = _ := endS_get hE 8 (by decide)
  have e9 : u 9 = _ := endS_get hE 9 (by decide)
  have HPu : Hid (PathAt w4 (u 10) (PR)) := endS_get hE 10 (by decide)
  have e11 : u 11 = _ := endS_get hE 11 (by decide)
  have e12 : u 12 = _ := endS_get hE 12 (by decide)
  simp only [List.drop_succ_cons, List.drop_zero, List.take_succ_cons, List.take_zero, fillL, Act.put, List.setIfInBounds_toArray, List.set_cons_zero, List.set_cons_succ, e0, e1, e2, e4, e8, e9, e11, e12]
  clear e0 e1 e2 e4 e8 e9 e11 e12 hE
  have HBw4 := Lib.hid (below_step (w := w3) (by first | assumption | go_grown) hb)
  have HBXw4 := Lib.hid hb
  have hzw4 := hb.size
  (try simp only [World.size_alloc, World.size_setCell] at hzw4)
  have hzw40 : w.heap.size < w4.heap.size := by omega
  obtain ⟨hcw4, hfw4⟩ := bcell hb
  clear hb hzw4
  obtain ⟨pv, hpv⟩ : ∃ v, u 10 = v := ⟨_, rfl⟩
  rw [hpv] at HPu ⊢
  clear hpv
  obtain ⟨oP, cP, rfl, hlP, hpl⟩ := (show PathAt w4 pv PR from HPu.out).form
  have HPL := Lib.hid hpl
  clear hpl
  have hP34 := HBXw4.out
  replace HML := Lib.hid (HML.out.below hP34)
  replace HT := Lib.hid (HT.out.below hP34)
  replace HU := Lib.hid (HU.out.below hP34)
  replace HBX := Lib.hid (HBX.out.below hP34)
  have hBw4 : Below w.heap.size w w4 := below_step hBw3 hP34
  clear hP34 hcw4 hfw4 HMK HTx HMx hBw3
  clear x0 x1 x2 x3 xf xs
  obtain ⟨x0, x1, x2, x3, xf, xs⟩ := cells_at4 (show _ = _ from HBX.out)
  go_wp2_with fail
  have HB4 : Hid (Blk (w4.alloc (.cells #[.string ci, .int .i64 cf, .int .i64 ct, .int .i64 cs] 34)) w4.heap.size #[.string ci, .int .i64 cf, .int .i64 ct, .int .i64 cs] 34) := heapA_at _ _ _ rfl
  (go_at_call 14; refine (check_any _ _ n 1 T (fun _ => ⟨ci, cf, ct, cs⟩) _ (HT.out.below (by first | exact Below.refl _ _ | (show Below w4.heap.size w4 _; go_grown))) (one_cab _ w4.heap.size ci cf ct cs 34 HB4.out) (fun _ _ => hs) (HML.out.below (by first | exact Below.refl _ _ | (show Below w4.heap.size w4 _; go_grown)))).mono ?_; rintro e_ w5 ⟨rfl, hb⟩)
  have hPw5 : Below w4.heap.size w4 w5 := below_step (w := w4) (by first | exact Below.refl _ _ | go_grown) hb
  have hBw5 : Below w.heap.size w w5 := below_step hBw4 hPw5
  replace HML := Lib.hid (HML.out.below hPw5)
  replace HT := Lib.hid (HT.out.below hPw5)
  replace HU := Lib.hid (HU.out.below hPw5)
  replace HBX := Lib.hid (HBX.out.below hPw5)
  replace HPu := Lib.hid (HPu.out.below hPw5)
  rw [HCE.out]
  have HB45 := Lib.hid hPw5
  clear HB4
  clear x0 x1 x2 x3 xf xs
  clear hb hPw5 hBw4
  by_cases hC0 : CE = 0
  rotate_left
  · have kC : (CE == 0) = false := by simpa using hC0
    have kC2 : (CE != 0) = true := by simpa using hC0
    obtain ⟨f1, f2, f3⟩ := short_bad (n := n) (T := T) (c := ⟨ci, cf, ct, cs⟩) (by rw [HCE.out]; exact hC0)
    rw [HE.out] at f1
    rw [HPR.out] at f2
    rw [HD.out] at f3
    subst f2
    subst f3
    have kE : (E == 0) = false := by simpa using f1
    have kE2 : (E != 0) = true := by simpa using f1
    clear hC0 f1
    go_wp2_with fail
    (go_at_call 11; refine (alive_any _ (HML.out.below (by first | exact Below.refl _ _ | (show Below w5.heap.size w5 _; go_grown)))).mono ?_; rintro e_ wz ⟨rfl, hb⟩)
    have hPwz : Below w5.heap.size w5 wz := below_step (w := w5) (by first | exact Below.refl _ _ | go_grown) hb
    have hBwz : Below w.heap.size w wz := below_step hBw5 hPwz
    clear hb hPwz hBw5
    go_wp2
    go_returns
    exact ⟨rfl, hBwz⟩
  subst hC0
  obtain ⟨f1, f2, f3, f4, f5⟩ := short_facts HCE.out
  rw [HE.out] at f1 f5
  rw [HPR.out] at f2 f3 f4 f5
  rw [HD.out] at f5
  have hckk := check1_ok HCE.out
  have HTK := Lib.hid hckk.2.1
  have HNE := Lib.hid hckk.2.2.ne
  obtain ⟨ln, hln⟩ : ∃ l, PR.length = l := ⟨_, rfl⟩
  rw [hln] at f2 f3 f4 f5 HPL ⊢
  have HLN := Lib.hid hln
  have HF2 := Lib.hid f2
  have HF4 := Lib.hid f4
  have HF5 := Lib.hid f5
  have HPu' : Hid (IntsAt w5 (.slice oP ln cP) ln (pathF PR)) := by
    have h := HPu.out
    show IntsAt _ _ _ _
    rw [← hln]
    exact h
  have HINX : Hid (∀ W v l g R, idxB n g l = R → IntsAt W v l g → Calls Tryd.prog 24 #[v, .int .i64 (n : Int)] W fun e w' => e = .returned (.bool R) ∧ Below W.heap.size W w') := fun W v l g R hR h => by
    have h2 := indices_any v l n g W h
    rw [hR] at h2
    exact h2
  have HSUM : Hid (∀ W u v l g R, sumF T g l = R → TraysAt W u n T → IntsAt W v l g → idxB n g l = true → l ≤ 255000000 → Calls Tryd.prog 26 #[u, v] W fun e w' => e = .returned (.int .i64 R) ∧ Below W.heap.size W w') := fun W u v l g R hR h1 h hx hl => by
    have h2 := sum_any u v n l T g W h1 h HTK.out (idxB_ix hx) hl
    rw [hR] at h2
    exact h2
  have HWAY : Hid (∀ W u v l g R, isWayB T cf ct g l = R → TraysAt W u n T → IntsAt W v l g → idxB n g l = true → Calls Tryd.prog 25 #[u, .agg #[.string ci, .int .i64 cf, .int .i64 ct, .int .i64 cs], v] W fun e w' => e = .returned (.bool R) ∧ Below W.heap.size W w') := fun W u v l g R hR h1 h hx => by
    have h2 := way_any u v n l T g ci cf ct cs W h1 h (idxB_ix hx) HNE.out
    rw [hR] at h2
    exact h2
  have HF3 := Lib.hid f3
  clear f2 f3 f4 f5 hckk hln HPu
  have HXB := Lib.hid hBw5
  rcases f1 with rfl | rfl
  · obtain ⟨x0, x1, x2, x3, xf, xs⟩ := cells_at4 (show _ = _ from HBX.out)
    go_wp2_with fail
    (go_at_call 24; refine (HINX.out _ _ _ _ _ HF2.out (HPu'.out.below (by first | exact Below.refl _ _ | (show Below w5.heap.size w5 _; go_grown)))).mono ?_; rintro e_ w6 ⟨rfl, hb⟩)
    have hPw6 : Below w5.heap.size w5 w6 := below_step (w := w5) (by first | exact Below.refl _ _ | go_grown) hb
    have hBw6 : Below w.heap.size w w6 := below_step hBw5 hPw6
    replace HML := Lib.hid (HML.out.below hPw6)
    replace HT := Lib.hid (HT.out.below hPw6)
    replace HU := Lib.hid (HU.out.below hPw6)
    replace HBX := Lib.hid (HBX.out.below hPw6)
    replace HPu' := Lib.hid (HPu'.out.below hPw6)
    have HB46 := Lib.hid (below_step HB45.out hPw6)
    clear x0 x1 x2 x3 xf xs
    clear hb hPw6 hBw5
    obtain ⟨x0, x1, x2, x3, xf, xs⟩ := cells_at4 (show _ = _ from HBX.out)
    go_wp2_with fail
    (go_at_call 25; refine (HWAY.out _ _ _ _ _ _ (HF5.out trivial).1 (HT.out.below (by first | exact Below.refl _ _ | (show Below w6.heap.size w6 _; go_grown))) (HPu'.out.below (by first | exact Below.refl _ _ | (show Below w6.heap.size w6 _; go_grown))) HF2.out).mono ?_; rintro e_ w7 ⟨rfl, hb⟩)
    have hPw7 : Below w6.heap.size w6 w7 := below_step (w := w6) (by first | exact Below.refl _ _ | go_grown) hb
    have hBw7 : Below w.heap.size w w7 := below_step hBw6 hPw7
    replace HML := Lib.hid (HML.out.below hPw7)
    replace HT := Lib.hid (HT.out.below hPw7)
    replace HU := Lib.hid (HU.out.below hPw7)
    replace HBX := Lib.hid (HBX.out.below hPw7)
    replace HPu' := Lib.hid (HPu'.out.below hPw7)
    have HB47 := Lib.hid (below_step HB46.out hPw7)
    clear x0 x1 x2 x3 xf xs
    clear hb hPw7 hBw6
    go_wp2_with fail
    (go_at_call 26; refine (HSUM.out _ _ _ _ _ _ (HF5.out trivial).2 (HT.out.below (by first | exact Below.refl _ _ | (show Below w7.heap.size w7 _; go_grown))) (HPu'.out.below (by first | exact Below.refl _ _ | (show Below w7.heap.size w7 _; go_grown))) HF2.out HF3.out).mono ?_; rintro e_ w8 ⟨rfl, hb⟩)
    have hPw8 : Below w7.heap.size w7 w8 := below_step (w := w7) (by first | exact Below.refl _ _ | go_grown) hb
    have hBw8 : Below w.heap.size w w8 := below_step hBw7 hPw8
    replace HML := Lib.hid (HML.out.below hPw8)
    replace HT := Lib.hid (HT.out.below hPw8)
    replace HU := Lib.hid (HU.out.below hPw8)
    replace HBX := Lib.hid (HBX.out.below hPw8)
    replace HPu' := Lib.hid (HPu'.out.below hPw8)
    have HB48 := Lib.hid (below_step HB47.out hPw8)
    clear hb hPw8 hBw7
    go_wp2
    go_loopw [10] (fun i wr => ∃ j : Nat, j ≤ ln ∧ i = .int .i64 j ∧ Below w8.heap.size w8 wr) (fun i _ => ln - (intOf i).toNat)
    case atStart => exact ⟨0, by omega, rfl, Below.refl _ _⟩
    case round =>
      obtain ⟨w9, rfl⟩ : ∃ x : World, x = wr := ⟨_, rfl⟩
      obtain ⟨j, hj, rfl, hB9⟩ := hrel
      have hBw9 : Below w.heap.size w w9 := below_step hBw8 hB9
      have hB49 : Below w4.heap.size w4 w9 := below_step HB48.out hB9
      replace HML := Lib.hid (HML.out.below hB9)
      replace HT := Lib.hid (HT.out.below hB9)
      replace HU := Lib.hid (HU.out.below hB9)
      replace HBX := Lib.hid (HBX.out.below hB9)
      replace HPu' := Lib.hid (HPu'.out.below hB9)
      have HB9 := Lib.hid hB9
      have HB49 := Lib.hid hB49
      have HBw9 := Lib.hid hBw9
      have k0 : (0 : Int) ≤ (j : Int) := by omega
      have hlb : ln ≤ 255000000 := HF3.out
      by_cases hjn : j < ln
      · obtain ⟨b2, f2, rfl, hbl2, hcl2⟩ := HPL.out j hjn
        have cpj : w9.cell? ⟨b2, f2 + j, none⟩ = some (.int .i64 (pathF PR j)) := (hB49.cell (p := ⟨_, _, none⟩) hbl2).trans (hcl2 j hjn)
        obtain ⟨hi0, hi1⟩ := idxB_ix HF2.out j hjn
        have hsp := HF4.out j hjn
        obtain ⟨i, hi⟩ : ∃ i : Nat, pathF PR j = (i : Int) := ⟨(pathF PR j).toNat, by omega⟩
        rw [hi] at cpj hi0 hi1 hsp
        have hin : i < n := by omega
        rw [Int.toNat_natCast] at hsp
        obtain ⟨b1, f1, rfl, hbl1, hcl1⟩ := HEL.out i hin
        have c3 : w9.cell? ⟨b1, f1 + i * 4 + 3, none⟩ = some (.int .i64 (T i).S) := (hBw9.cell (p := ⟨_, _, none⟩) hbl1).trans (hcl1 i hin).2.2.2
        obtain ⟨s, hs4⟩ : ∃ l, (T i).S = l := ⟨_, rfl⟩
        rw [hs4] at c3 hsp
        have kd : decide (s < cs) = false := decide_eq_false (by omega)
        have z1 : b1 < w9.heap.size := by have := hBw9.size; omega
        have z2 : b2 < w9.heap.size := by have := hB49.size; omega
        have z3 : w.heap.size < w9.heap.size := block_lt HBX.out
        have k1 : (j : Int) < (ln : Int) := by omega
        obtain ⟨x0, x1, x2, x3, xf, xs⟩ := cells_at4 (show _ = _ from HBX.out)
        clear hcl1 hcl2 hi hs4 hsp hB9 hB49 hBw9
        go_wp2_with fail
        refine wp_region_relw 11 (by kernel_rfl) (by kernel_rfl) (by kernel_rfl) ?_
        simp only [List.take_succ_cons, List.take_zero, fillL, Act.put, List.setIfInBounds_toArray, List.set_cons_zero, List.set_cons_succ]
        iterate 11
          apply rel_is
          · intro u wx hb hd
            have hz := hb.size
            (try simp only [World.size_alloc, World.size_setCell] at hz)
            have hz0 : b1 < wx.heap.size := by omega
            have hz1 : b2 < wx.heap.size := by omega
            have hz2 : w.heap.size < wx.heap.size := by omega
            obtain ⟨hc, hf⟩ := bcell hb
            have HBX := Lib.hid hb
            clear hb hz
            simp [depsS, Region.binds, updS, Stay.is, Stay.any] at hd
            go_simp
            first | exact ⟨Below.refl _ _, rfl⟩ | rfl
        intro u wA hb hE
        have e0 : u 0 = _ := endS_get hE 0 (by decide)
        have e1 : u 1 = _ := endS_get hE 1 (by decide)
        have e2 : u 2 = _ := endS_get hE 2 (by decide)
        have e3 : u 3 = _ := endS_get hE 3 (by decide)
        have e4 : u 4 = _ := endS_get hE 4 (by decide)
        have e5 : u 5 = _ := endS_get hE 5 (by decide)
        have e6 : u 6 = _ := endS_get hE 6 (by decide)
        have e7 : u 7 = _ := endS_get hE 7 (by decide)
        have e8 : u 8 = _ := endS_get hE 8 (by decide)
        have e9 : u 9 = _ := endS_get hE 9 (by decide)
        have e10 : u 10 = _ := endS_get hE 10 (by decide)
        simp only [List.drop_succ_cons, List.drop_zero, List.take_succ_cons, List.take_zero, fillL, Act.put, List.setIfInBounds_toArray, List.set_cons_zero, List.set_cons_succ, e0, e1, e2, e3, e4, e5, e6, e7, e8, e9, e10]
        clear e0 e1 e2 e3 e4 e5 e6 e7 e8 e9 e10 hE
        have HBwA := Lib.hid (below_step (w := w9) (by first | assumption | go_grown) hb)
        have HBXwA := Lib.hid hb
        have hzwA := hb.size
        (try simp only [World.size_alloc, World.size_setCell] at hzwA)
        have hzwA0 : b1 < wA.heap.size := by omega
        have hzwA1 : b2 < wA.heap.size := by omega
        have hzwA2 : w.heap.size < wA.heap.size := by omega
        obtain ⟨hcwA, hfwA⟩ := bcell hb
        clear hb hzwA
        go_wp2
        go_roundw
        case rel => exact ⟨j + 1, by omega, by go_num, below_step HB9.out HBXwA.out⟩
        case measure => simp [intOf]; omega
      · clear k0 hB9 hB49 hBw9 HB9
        have hBw9 := HBw9.out
        obtain ⟨IX, hIX⟩ : ∃ b, idxB n f nu = b := ⟨_, rfl⟩
        have HIX := Lib.hid hIX
        clear hIX
        go_wp2_with fail
        (go_at_call 24; refine (HINX.out _ _ _ _ _ HIX.out (HU.out.below (by first | exact Below.refl _ _ | (show Below w9.heap.size w9 _; go_grown)))).mono ?_; rintro e_ w10 ⟨rfl, hb⟩)
        have hPw10 : Below w9.heap.size w9 w10 := below_step (w := w9) (by first | exact Below.refl _ _ | go_grown) hb
        have hBw10 : Below w.heap.size w w10 := below_step hBw9 hPw10
        replace HML := Lib.hid (HML.out.below hPw10)
        replace HT := Lib.hid (HT.out.below hPw10)
        replace HU := Lib.hid (HU.out.below hPw10)
        replace HBX := Lib.hid (HBX.out.below hPw10)
        replace HPu' := Lib.hid (HPu'.out.below hPw10)
        have HB4a := Lib.hid (below_step HB49.out hPw10)
        clear hb hPw10 hBw9
        cases IX
        · go_wp2_with fail
          (go_at_call 11; refine (alive_any _ (HML.out.below (by first | exact Below.refl _ _ | (show Below w10.heap.size w10 _; go_grown)))).mono ?_; rintro e_ wz ⟨rfl, hb⟩)
          have hPwz : Below w10.heap.size w10 wz := below_step (w := w10) (by first | exact Below.refl _ _ | go_grown) hb
          have hBwz : Below w.heap.size w wz := below_step hBw10 hPwz
          clear hb hPwz hBw10
          go_wp2
          go_returns
          exact ⟨rfl, hBwz⟩
        obtain ⟨WY, hWY⟩ : ∃ b, isWayB T cf ct f nu = b := ⟨_, rfl⟩
        have HWY := Lib.hid hWY
        clear hWY
        obtain ⟨x0, x1, x2, x3, xf, xs⟩ := cells_at4 (show _ = _ from HBX.out)
        go_wp2_with fail
        (go_at_call 25; refine (HWAY.out _ _ _ _ _ _ HWY.out (HT.out.below (by first | exact Below.refl _ _ | (show Below w10.heap.size w10 _; go_grown))) (HU.out.below (by first | exact Below.refl _ _ | (show Below w10.heap.size w10 _; go_grown))) HIX.out).mono ?_; rintro e_ w11 ⟨rfl, hb⟩)
        have hPw11 : Below w10.heap.size w10 w11 := below_step (w := w10) (by first | exact Below.refl _ _ | go_grown) hb
        have hBw11 : Below w.heap.size w w11 := below_step hBw10 hPw11
        replace HML := Lib.hid (HML.out.below hPw11)
        replace HT := Lib.hid (HT.out.below hPw11)
        replace HU := Lib.hid (HU.out.below hPw11)
        replace HBX := Lib.hid (HBX.out.below hPw11)
        replace HPu' := Lib.hid (HPu'.out.below hPw11)
        have HB4b := Lib.hid (below_step HB4a.out hPw11)
        clear x0 x1 x2 x3 xf xs
        clear hb hPw11 hBw10
        cases WY
        · go_wp2_with fail
          (go_at_call 11; refine (alive_any _ (HML.out.below (by first | exact Below.refl _ _ | (show Below w11.heap.size w11 _; go_grown)))).mono ?_; rintro e_ wz ⟨rfl, hb⟩)
          have hPwz : Below w11.heap.size w11 wz := below_step (w := w11) (by first | exact Below.refl _ _ | go_grown) hb
          have hBwz : Below w.heap.size w wz := below_step hBw11 hPwz
          clear hb hPwz hBw11
          go_wp2
          go_returns
          exact ⟨rfl, hBwz⟩
        go_wp2
        go_loopw [11] (fun i wr => ∃ j : Nat, j ≤ nu ∧ i = .int .i64 j ∧ Hid (∀ q, q < j → cs ≤ (T (f q).toNat).S) ∧ Below w11.heap.size w11 wr) (fun i _ => nu - (intOf i).toNat)
        case atStart => exact ⟨0, by omega, rfl, fun q hq => by omega, Below.refl _ _⟩
        case round =>
          obtain ⟨w12, rfl⟩ : ∃ x : World, x = wr := ⟨_, rfl⟩
          obtain ⟨j, hj, rfl, HSP, hBc⟩ := hrel
          have hBw12 : Below w.heap.size w w12 := below_step hBw11 hBc
          have hB4c : Below w4.heap.size w4 w12 := below_step HB4b.out hBc
          replace HML := Lib.hid (HML.out.below hBc)
          replace HT := Lib.hid (HT.out.below hBc)
          replace HU := Lib.hid (HU.out.below hBc)
          replace HBX := Lib.hid (HBX.out.below hBc)
          replace HPu' := Lib.hid (HPu'.out.below hBc)
          have HBc := Lib.hid hBc
          have HB4c := Lib.hid hB4c
          have HBw12 := Lib.hid hBw12
          have k0 : (0 : Int) ≤ (j : Int) := by omega
          by_cases hjn : j < nu
          · obtain ⟨b2, f2, rfl, hbl2, hcl2⟩ := HUL.out j hjn
            have cpj : w12.cell? ⟨b2, f2 + j, none⟩ = some (.int .i64 (f j)) := (hBw12.cell (p := ⟨_, _, none⟩) hbl2).trans (hcl2 j hjn)
            obtain ⟨hi0, hi1⟩ := idxB_ix HIX.out j hjn
            obtain ⟨i, hi⟩ : ∃ i : Nat, f j = (i : Int) := ⟨(f j).toNat, by omega⟩
            rw [hi] at cpj hi0 hi1
            have hin : i < n := by omega
            obtain ⟨b1, f1, rfl, hbl1, hcl1⟩ := HEL.out i hin
            have c3 : w12.cell? ⟨b1, f1 + i * 4 + 3, none⟩ = some (.int .i64 (T i).S) := (hBw12.cell (p := ⟨_, _, none⟩) hbl1).trans (hcl1 i hin).2.2.2
            obtain ⟨s, hs4⟩ : ∃ l, (T i).S = l := ⟨_, rfl⟩
            rw [hs4] at c3
            have z1 : b1 < w12.heap.size := by have := hBw12.size; omega
            have z2 : b2 < w12.heap.size := by have := hBw12.size; omega
            have z3 : w.heap.size < w12.heap.size := block_lt HBX.out
            have k1 : (j : Int) < (nu : Int) := by omega
            have hsz : s = (T (f j).toNat).S := by rw [hi, Int.toNat_natCast, hs4]
            have HSZ := Lib.hid hsz
            clear hcl1 hcl2 hi hs4 hsz hBc hB4c
            by_cases hsc : s < cs
            · have kd : decide (s < cs) = true := decide_eq_true hsc
              clear hsc
              obtain ⟨x0, x1, x2, x3, xf, xs⟩ := cells_at4 (show _ = _ from HBX.out)
              go_wp2_with fail
              refine wp_region_relw 11 (by kernel_rfl) (by kernel_rfl) (by kernel_rfl) ?_
              simp only [List.take_succ_cons, List.take_zero, fillL, Act.put, List.setIfInBounds_toArray, List.set_cons_zero, List.set_cons_succ]
              iterate 11
                apply rel_is
                · intro u wx hb hd
                  have hz := hb.size
                  (try simp only [World.size_alloc, World.size_setCell] at hz)
                  have hz0 : b1 < wx.heap.size := by omega
                  have hz1 : b2 < wx.heap.size := by omega
                  have hz2 : w.heap.size < wx.heap.size := by omega
                  obtain ⟨hc, hf⟩ := bcell hb
                  have HBX := Lib.hid hb
                  clear hb hz
                  simp [depsS, Region.binds, updS, Stay.is, Stay.any] at hd
                  go_simp
                  first | exact ⟨Below.refl _ _, rfl⟩ | rfl
              intro u wA hb hE
              have e0 : u 0 = _ := endS_get hE 0 (by decide)
              have e1 : u 1 = _ := endS_get hE 1 (by decide)
              have e2 : u 2 = _ := endS_get hE 2 (by decide)
              have e3 : u 3 = _ := endS_get hE 3 (by decide)
              have e4 : u 4 = _ := endS_get hE 4 (by decide)
              have e5 : u 5 = _ := endS_get hE 5 (by decide)
              have e6 : u 6 = _ := endS_get hE 6 (by decide)
              have e7 : u 7 = _ := endS_get hE 7 (by decide)
              have e8 : u 8 = _ := endS_get hE 8 (by decide)
              have e9 : u 9 = _ := endS_get hE 9 (by decide)
              have e10 : u 10 = _ := endS_get hE 10 (by decide)
              simp only [List.drop_succ_cons, List.drop_zero, List.take_succ_cons, List.take_zero, fillL, Act.put, List.setIfInBounds_toArray, List.set_cons_zero, List.set_cons_succ, e0, e1, e2, e3, e4, e5, e6, e7, e8, e9, e10]
              clear e0 e1 e2 e3 e4 e5 e6 e7 e8 e9 e10 hE
              have HBwA := Lib.hid (below_step (w := w12) (by first | assumption | go_grown) hb)
              have HBXwA := Lib.hid hb
              have hzwA := hb.size
              (try simp only [World.size_alloc, World.size_setCell] at hzwA)
              have hzwA0 : b1 < wA.heap.size := by omega
              have hzwA1 : b2 < wA.heap.size := by omega
              have hzwA2 : w.heap.size < wA.heap.size := by omega
              obtain ⟨hcwA, hfwA⟩ := bcell hb
              clear hb hzwA
              replace HML := Lib.hid (HML.out.below HBXwA.out)
              have hBwA := below_step hBw12 HBXwA.out
              clear hcwA hfwA c3 cpj x0 x1 x2 x3 xf xs
              go_wp2_with fail
              (go_at_call 11; refine (alive_any _ (HML.out.below (by first | exact Below.refl _ _ | (show Below wA.heap.size wA _; go_grown)))).mono ?_; rintro e_ wz ⟨rfl, hb⟩)
              have hPwz : Below wA.heap.size wA wz := below_step (w := wA) (by first | exact Below.refl _ _ | go_grown) hb
              have hBwz : Below w.heap.size w wz := below_step hBwA hPwz
              clear hb hPwz hBwA
              go_wp2
              go_returns
              exact ⟨rfl, hBwz⟩
            · have kd : decide (s < cs) = false := decide_eq_false hsc
              have HSP2 : Hid (∀ q, q < j + 1 → cs ≤ (T (f q).toNat).S) := fun q hq => by
                by_cases e : q = j
                · rw [e, ← HSZ.out]; omega
                · exact HSP.out q (by omega)
              clear hsc hBw12
              obtain ⟨x0, x1, x2, x3, xf, xs⟩ := cells_at4 (show _ = _ from HBX.out)
              go_wp2_with fail
              refine wp_region_relw 11 (by kernel_rfl) (by kernel_rfl) (by kernel_rfl) ?_
              simp only [List.take_succ_cons, List.take_zero, fillL, Act.put, List.setIfInBounds_toArray, List.set_cons_zero, List.set_cons_succ]
              iterate 11
                apply rel_is
                · intro u wx hb hd
                  have hz := hb.size
                  (try simp only [World.size_alloc, World.size_setCell] at hz)
                  have hz0 : b1 < wx.heap.size := by omega
                  have hz1 : b2 < wx.heap.size := by omega
                  have hz2 : w.heap.size < wx.heap.size := by omega
                  obtain ⟨hc, hf⟩ := bcell hb
                  have HBX := Lib.hid hb
                  clear hb hz
                  simp [depsS, Region.binds, updS, Stay.is, Stay.any] at hd
                  go_simp
                  first | exact ⟨Below.refl _ _, rfl⟩ | rfl
              intro u wA hb hE
              have e0 : u 0 = _ := endS_get hE 0 (by decide)
              have e1 : u 1 = _ := endS_get hE 1 (by decide)
              have e2 : u 2 = _ := endS_get hE 2 (by decide)
              have e3 : u 3 = _ := endS_get hE 3 (by decide)
              have e4 : u 4 = _ := endS_get hE 4 (by decide)
              have e5 : u 5 = _ := endS_get hE 5 (by decide)
              have e6 : u 6 = _ := endS_get hE 6 (by decide)
              have e7 : u 7 = _ := endS_get hE 7 (by decide)
              have e8 : u 8 = _ := endS_get hE 8 (by decide)
              have e9 : u 9 = _ := endS_get hE 9 (by decide)
              have e10 : u 10 = _ := endS_get hE 10 (by decide)
              simp only [List.drop_succ_cons, List.drop_zero, List.take_succ_cons, List.take_zero, fillL, Act.put, List.setIfInBounds_toArray, List.set_cons_zero, List.set_cons_succ, e0, e1, e2, e3, e4, e5, e6, e7, e8, e9, e10]
              clear e0 e1 e2 e3 e4 e5 e6 e7 e8 e9 e10 hE
              have HBwA := Lib.hid (below_step (w := w12) (by first | assumption | go_grown) hb)
              have HBXwA := Lib.hid hb
              have hzwA := hb.size
              (try simp only [World.size_alloc, World.size_setCell] at hzwA)
              have hzwA0 : b1 < wA.heap.size := by omega
              have hzwA1 : b2 < wA.heap.size := by omega
              have hzwA2 : w.heap.size < wA.heap.size := by omega
              obtain ⟨hcwA, hfwA⟩ := bcell hb
              clear hb hzwA
              go_wp2
              go_roundw
              case rel => exact ⟨j + 1, by omega, by go_num, HSP2, below_step HBc.out HBXwA.out⟩
              case measure => simp [intOf]; omega
          · have HSP3 : Hid (∀ q, q < nu → cs ≤ (T (f q).toNat).S) := fun q hq => HSP.out q (by omega)
            clear k0 hBc hB4c hBw12 HBc HSP
            have hBw12 := HBw12.out
            obtain ⟨g1, g2, g3⟩ := shortest HCE.out HWY.out (idxB_ix HIX.out) HSP3.out
            rw [HE.out] at g1
            rw [HPR.out] at g3
            rw [HD.out] at g2 g3
            rw [HLN.out] at g3
            obtain ⟨SM, hSM⟩ : ∃ s, sumF T f nu = s := ⟨_, rfl⟩
            rw [hSM] at g2 g3
            have HSM := Lib.hid hSM
            have HG3 := Lib.hid g3
            have kD : decide (SM < D) = false := decide_eq_false (by omega)
            clear g3 hSM
            clear g1
            go_wp2_with fail
            (go_at_call 26; refine (HSUM.out _ _ _ _ _ _ HSM.out (HT.out.below (by first | exact Below.refl _ _ | (show Below w12.heap.size w12 _; go_grown))) (HU.out.below (by first | exact Below.refl _ _ | (show Below w12.heap.size w12 _; go_grown))) HIX.out (by omega)).mono ?_; rintro e_ w13 ⟨rfl, hb⟩)
            have hPw13 : Below w12.heap.size w12 w13 := below_step (w := w12) (by first | exact Below.refl _ _ | go_grown) hb
            have hBw13 : Below w.heap.size w w13 := below_step hBw12 hPw13
            replace HML := Lib.hid (HML.out.below hPw13)
            replace HT := Lib.hid (HT.out.below hPw13)
            replace HU := Lib.hid (HU.out.below hPw13)
            replace HBX := Lib.hid (HBX.out.below hPw13)
            replace HPu' := Lib.hid (HPu'.out.below hPw13)
            have HB4d := Lib.hid (below_step HB4c.out hPw13)
            clear hb hPw13 hBw12
            go_wp2_with fail
            (go_at_call 26; refine (HSUM.out _ _ _ _ _ _ HSM.out (HT.out.below (by first | exact Below.refl _ _ | (show Below w13.heap.size w13 _; go_grown))) (HU.out.below (by first | exact Below.refl _ _ | (show Below w13.heap.size w13 _; go_grown))) HIX.out (by omega)).mono ?_; rintro e_ w14 ⟨rfl, hb⟩)
            have hPw14 : Below w13.heap.size w13 w14 := below_step (w := w13) (by first | exact Below.refl _ _ | go_grown) hb
            have hBw14 : Below w.heap.size w w14 := below_step hBw13 hPw14
            replace HML := Lib.hid (HML.out.below hPw14)
            replace HT := Lib.hid (HT.out.below hPw14)
            replace HU := Lib.hid (HU.out.below hPw14)
            replace HBX := Lib.hid (HBX.out.below hPw14)
            replace HPu' := Lib.hid (HPu'.out.below hPw14)
            have HB4e := Lib.hid (below_step HB4d.out hPw14)
            clear hb hPw14 hBw13
            by_cases hgt : D < SM
            · have kG : decide (D < SM) = true := decide_eq_true hgt
              clear hgt
              go_wp2_with fail
              (go_at_call 11; refine (alive_any _ (HML.out.below (by first | exact Below.refl _ _ | (show Below w14.heap.size w14 _; go_grown)))).mono ?_; rintro e_ wz ⟨rfl, hb⟩)
              have hPwz : Below w14.heap.size w14 wz := below_step (w := w14) (by first | exact Below.refl _ _ | go_grown) hb
              have hBwz : Below w.heap.size w wz := below_step hBw14 hPwz
              clear hb hPwz hBw14
              go_wp2
              go_returns
              exact ⟨rfl, hBwz⟩
            have kG : decide (D < SM) = false := decide_eq_false hgt
            have HW3 := Lib.hid (HG3.out (by omega))
            clear hgt
            go_wp2
            go_loopw [12] (fun i wr => ∃ j : Nat, j ≤ nu ∧ j ≤ ln ∧ i = .int .i64 j ∧ Hid (∀ q, q < j → pathF PR q = f q) ∧ Below w14.heap.size w14 wr) (fun i _ => nu - (intOf i).toNat)
            case atStart => exact ⟨0, by omega, by omega, rfl, fun q hq => by omega, Below.refl _ _⟩
            case round =>
              obtain ⟨w15, rfl⟩ : ∃ x : World, x = wr := ⟨_, rfl⟩
              obtain ⟨j, hj, hj2, rfl, HEQ, hBf⟩ := hrel
              have hBw15 : Below w.heap.size w w15 := below_step hBw14 hBf
              have hB4f : Below w4.heap.size w4 w15 := below_step HB4e.out hBf
              replace HML := Lib.hid (HML.out.below hBf)
              have HBf := Lib.hid hBf
              have k0 : (0 : Int) ≤ (j : Int) := by omega
              by_cases hjn : j < nu
              rotate_left
              · have kj : decide ((j : Int) < (nu : Int)) = false := decide_eq_false (by omega)
                have hll : nu = ln := by
                  rcases HW3.out with ⟨h1, -⟩ | ⟨k, h1, h2, h3, h4⟩
                  · exact h1.symm
                  · have := HEQ.out k (by omega); omega
                have kl : ((nu : Int) == (ln : Int)) = true := by rw [hll]; simp
                clear hB4f hBf hj2 hll k0
                go_wp2_with fail
                (go_at_call 11; refine (alive_any _ (HML.out.below (by first | exact Below.refl _ _ | (show Below w15.heap.size w15 _; go_grown)))).mono ?_; rintro e_ wz ⟨rfl, hb⟩)
                have hPwz : Below w15.heap.size w15 wz := below_step (w := w15) (by first | exact Below.refl _ _ | go_grown) hb
                have hBwz : Below w.heap.size w wz := below_step hBw15 hPwz
                clear hb hPwz hBw15
                go_wp2
                go_returns
                exact ⟨rfl, hBwz⟩
              by_cases hjl : j < ln
              rotate_left
              · have kj : decide ((j : Int) < (nu : Int)) = true := decide_eq_true (by omega)
                have kj2 : decide ((j : Int) < (ln : Int)) = false := decide_eq_false (by omega)
                have hll : nu = ln := by
                  rcases HW3.out with ⟨h1, -⟩ | ⟨k, h1, h2, h3, h4⟩
                  · exact h1.symm
                  · have := HEQ.out k (by omega); omega
                have kl : ((nu : Int) == (ln : Int)) = true := by rw [hll]; simp
                clear hB4f hBf hll k0
                go_wp2_with fail
                (go_at_call 11; refine (alive_any _ (HML.out.below (by first | exact Below.refl _ _ | (show Below w15.heap.size w15 _; go_grown)))).mono ?_; rintro e_ wz ⟨rfl, hb⟩)
                have hPwz : Below w15.heap.size w15 wz := below_step (w := w15) (by first | exact Below.refl _ _ | go_grown) hb
                have hBwz : Below w.heap.size w wz := below_step hBw15 hPwz
                clear hb hPwz hBw15
                go_wp2
                go_returns
                exact ⟨rfl, hBwz⟩
              have kj : decide ((j : Int) < (nu : Int)) = true := decide_eq_true (by omega)
              have kj2 : decide ((j : Int) < (ln : Int)) = true := decide_eq_true (by omega)
              obtain ⟨b2, f2, rfl, hbl2, hcl2⟩ := HUL.out j hjn
              have cuj : w15.cell? ⟨b2, f2 + j, none⟩ = some (.int .i64 (f j)) := (hBw15.cell (p := ⟨_, _, none⟩) hbl2).trans (hcl2 j hjn)
              obtain ⟨b3, f3, rfl, hbl3, hcl3⟩ := HPL.out j hjl
              have cpj : w15.cell? ⟨b3, f3 + j, none⟩ = some (.int .i64 (pathF PR j)) := (hB4f.cell (p := ⟨_, _, none⟩) hbl3).trans (hcl3 j hjl)
              have hdiff : pathF PR j ≠ f j → pathF PR j < f j := fun hne => by
                rcases HW3.out with ⟨h1, h2⟩ | ⟨k, h1, h2, h3, h4⟩
                · exact absurd (h2 j hjn) hne
                · rcases Nat.lt_trichotomy k j with c | c | c
                  · have := HEQ.out k c; omega
                  · rw [← c]; exact h3
                  · exact absurd (h4 j c) hne
              have HEQ2 : pathF PR j = f j → Hid (∀ q, q < j + 1 → pathF PR q = f q) := fun he => show ∀ q, q < j + 1 → pathF PR q = f q from fun q hq => by
                by_cases e : q = j
                · rw [e]; exact he
                · exact HEQ.out q (by omega)
              have HEQ3 := Lib.hid HEQ2
              have z2 : b2 < w15.heap.size := by have := hBw15.size; omega
              have z3 : b3 < w15.heap.size := by have := hB4f.size; omega
              have k1 : (j : Int) < (nu : Int) := by omega
              have k2 : (j : Int) < (ln : Int) := by omega
              obtain ⟨x, hx⟩ : ∃ x, pathF PR j = x := ⟨_, rfl⟩
              obtain ⟨y, hy⟩ : ∃ x, f j = x := ⟨_, rfl⟩
              rw [hx, hy] at HEQ3 hdiff
              rw [hx] at cpj
              rw [hy] at cuj
              clear HEQ2 hcl2 hcl3 hx hy hB4f hBf hbl2 hbl3
              by_cases hxy : x = y
              · have HEQ4 := HEQ3.out hxy
                have ky : (y == x) = true := by simpa using hxy.symm
                have ky2 : (y != x) = false := by simpa using hxy.symm
                clear hdiff HEQ3 hxy
                go_wp2_with fail
                refine wp_region_relw 9 (by kernel_rfl) (by kernel_rfl) (by kernel_rfl) ?_
                simp only [List.take_succ_cons, List.take_zero, fillL, Act.put, List.setIfInBounds_toArray, List.set_cons_zero, List.set_cons_succ]
                iterate 9
                  apply rel_is
                  · intro u wx hb hd
                    have hz := hb.size
                    (try simp only [World.size_alloc, World.size_setCell] at hz)
                    have hz0 : b2 < wx.heap.size := by omega
                    have hz1 : b3 < wx.heap.size := by omega
                    obtain ⟨hc, hf⟩ := bcell hb
                    have HBX := Lib.hid hb
                    clear hb hz
                    simp [depsS, Region.binds, updS, Stay.is, Stay.any] at hd
                    go_simp
                    first | exact ⟨Below.refl _ _, rfl⟩ | rfl
                intro u w16 hb hE
                have e0 : u 0 = _ := endS_get hE 0 (by decide)
                have e1 : u 1 = _ := endS_get hE 1 (by decide)
                have e2 : u 2 = _ := endS_get hE 2 (by decide)
                have e3 : u 3 = _ := endS_get hE 3 (by decide)
                have e4 : u 4 = _ := endS_get hE 4 (by decide)
                have e5 : u 5 = _ := endS_get hE 5 (by decide)
                have e6 : u 6 = _ := endS_get hE 6 (by decide)
                have e7 : u 7 = _ := endS_get hE 7 (by decide)
                have e8 : u 8 = _ := endS_get hE 8 (by decide)
                simp only [List.drop_succ_cons, List.drop_zero, List.take_succ_cons, List.take_zero, fillL, Act.put, List.setIfInBounds_toArray, List.set_cons_zero, List.set_cons_succ, e0, e1, e2, e3, e4, e5, e6, e7, e8]
                clear e0 e1 e2 e3 e4 e5 e6 e7 e8 hE
                have HBw16 := Lib.hid (below_step (w := w15) (by first | assumption | go_grown) hb)
                have HBXw16 := Lib.hid hb
                have hzw16 := hb.size
                (try simp only [World.size_alloc, World.size_setCell] at hzw16)
                have hzw160 : b2 < w16.heap.size := by omega
                have hzw161 : b3 < w16.heap.size := by omega
                obtain ⟨hcw16, hfw16⟩ := bcell hb
                clear hb hzw16
                go_wp2
                go_roundw
                case rel => exact ⟨j + 1, by omega, by omega, by go_num, HEQ4, below_step HBf.out HBXw16.out⟩
                case measure => simp [intOf]; omega
              · have hlt := hdiff hxy
                have ky : (y == x) = false := by simpa using fun h => hxy h.symm
                have ky2 : (y != x) = true := by simpa using fun h => hxy h.symm
                have kl : decide (x < y) = true := decide_eq_true hlt
                have HMx := Lib.hid HML.out
                clear hdiff HEQ3 hxy hlt
                go_wp2_with fail
                refine wp_region_relw 9 (by kernel_rfl) (by kernel_rfl) (by kernel_rfl) ?_
                simp only [List.take_succ_cons, List.take_zero, fillL, Act.put, List.setIfInBounds_toArray, List.set_cons_zero, List.set_cons_succ]
                iterate 9
                  apply rel_is
                  · intro u wx hb hd
                    have hz := hb.size
                    (try simp only [World.size_alloc, World.size_setCell] at hz)
                    have hz0 : b2 < wx.heap.size := by omega
                    have hz1 : b3 < wx.heap.size := by omega
                    obtain ⟨hc, hf⟩ := bcell hb
                    have HBX := Lib.hid hb
                    clear hb hz
                    simp [depsS, Region.binds, updS, Stay.is, Stay.any] at hd
                    go_simp
                    first | exact ⟨Below.refl _ _, rfl⟩ | rfl
                intro u w16 hb hE
                have e0 : u 0 = _ := endS_get hE 0 (by decide)
                have e1 : u 1 = _ := endS_get hE 1 (by decide)
                have e2 : u 2 = _ := endS_get hE 2 (by decide)
                have e3 : u 3 = _ := endS_get hE 3 (by decide)
                have e4 : u 4 = _ := endS_get hE 4 (by decide)
                have e5 : u 5 = _ := endS_get hE 5 (by decide)
                have e6 : u 6 = _ := endS_get hE 6 (by decide)
                have e7 : u 7 = _ := endS_get hE 7 (by decide)
                have e8 : u 8 = _ := endS_get hE 8 (by decide)
                simp only [List.drop_succ_cons, List.drop_zero, List.take_succ_cons, List.take_zero, fillL, Act.put, List.setIfInBounds_toArray, List.set_cons_zero, List.set_cons_succ, e0, e1, e2, e3, e4, e5, e6, e7, e8]
                clear e0 e1 e2 e3 e4 e5 e6 e7 e8 hE
                have HBw16 := Lib.hid (below_step (w := w15) (by first | assumption | go_grown) hb)
                have HBXw16 := Lib.hid hb
                have hzw16 := hb.size
                (try simp only [World.size_alloc, World.size_setCell] at hzw16)
                have hzw160 : b2 < w16.heap.size := by omega
                have hzw161 : b3 < w16.heap.size := by omega
                obtain ⟨hcw16, hfw16⟩ := bcell hb
                clear hb hzw16
                have cuj2 : w16.cell? ⟨b2, f2 + j, none⟩ = some (.int .i64 y) := (HBXw16.out.cell (p := ⟨_, _, none⟩) z2).trans cuj
                have cpj2 : w16.cell? ⟨b3, f3 + j, none⟩ = some (.int .i64 x) := (HBXw16.out.cell (p := ⟨_, _, none⟩) z3).trans cpj
                replace HMx := Lib.hid (HMx.out.below HBXw16.out)
                have HBw16 : Hid (Below w.heap.size w w16) := below_step hBw15 HBXw16.out
                clear hcw16 hfw16 cuj cpj hBw15
                go_wp2_with fail
                refine wp_region_relw 13 (by kernel_rfl) (by kernel_rfl) (by kernel_rfl) ?_
                simp only [List.take_succ_cons, List.take_zero, fillL, Act.put, List.setIfInBounds_toArray, List.set_cons_zero, List.set_cons_succ]
                iterate 10
                  apply rel_is
                  · intro u wx hb hd
                    have hz := hb.size
                    (try simp only [World.size_alloc, World.size_setCell] at hz)
                    have hz0 : b2 < wx.heap.size := by omega
                    have hz1 : b3 < wx.heap.size := by omega
                    obtain ⟨hc, hf⟩ := bcell hb
                    have HBX := Lib.hid hb
                    clear hb hz
                    simp [depsS, Region.binds, updS, Stay.is, Stay.any] at hd
                    go_simp
                    first | exact ⟨Below.refl _ _, rfl⟩ | rfl
                apply rel_is
                · intro u wx hb hd
                  have hz := hb.size
                  (try simp only [World.size_alloc, World.size_setCell] at hz)
                  have hz0 : b2 < wx.heap.size := by omega
                  have hz1 : b3 < wx.heap.size := by omega
                  obtain ⟨hc, hf⟩ := bcell hb
                  have HBX := Lib.hid hb
                  clear hb hz
                  simp [depsS, Region.binds, updS, Stay.is, Stay.any] at hd
                  go_simp
                  first | rfl | (go_at_call 11; refine (alive_any _ (HMx.out.below HBX.out)).mono ?_; rintro e w1 ⟨rfl, hb1⟩; first | exact ⟨rfl, hb1⟩ | exact ⟨_, rfl, hb1, rfl⟩)
                iterate 2
                  apply rel_is
                  · intro u wx hb hd
                    have hz := hb.size
                    (try simp only [World.size_alloc, World.size_setCell] at hz)
                    have hz0 : b2 < wx.heap.size := by omega
                    have hz1 : b3 < wx.heap.size := by omega
                    obtain ⟨hc, hf⟩ := bcell hb
                    have HBX := Lib.hid hb
                    clear hb hz
                    simp [depsS, Region.binds, updS, Stay.is, Stay.any] at hd
                    go_simp
                    first | exact ⟨Below.refl _ _, rfl⟩ | rfl
                intro u w17 hb hE
                have e0 : u 0 = _ := endS_get hE 0 (by decide)
                have e1 : u 1 = _ := endS_get hE 1 (by decide)
                have e2 : u 2 = _ := endS_get hE 2 (by decide)
                have e3 : u 3 = _ := endS_get hE 3 (by decide)
                have e4 : u 4 = _ := endS_get hE 4 (by decide)
                have e5 : u 5 = _ := endS_get hE 5 (by decide)
                have e6 : u 6 = _ := endS_get hE 6 (by decide)
                have e7 : u 7 = _ := endS_get hE 7 (by decide)
                have e8 : u 8 = _ := endS_get hE 8 (by decide)
                have e9 : u 9 = _ := endS_get hE 9 (by decide)
                have e10 : u 10 = _ := endS_get hE 10 (by decide)
                have e11 : u 11 = _ := endS_get hE 11 (by decide)
                have e12 : u 12 = _ := endS_get hE 12 (by decide)
                simp only [List.drop_succ_cons, List.drop_zero, List.take_succ_cons, List.take_zero, fillL, Act.put, List.setIfInBounds_toArray, List.set_cons_zero, List.set_cons_succ, e0, e1, e2, e3, e4, e5, e6, e7, e8, e9, e10, e11, e12]
                clear e0 e1 e2 e3 e4 e5 e6 e7 e8 e9 e10 e11 e12 hE
                have HBw17 := Lib.hid (below_step (w := w16) (by first | assumption | go_grown) hb)
                have HBXw17 := Lib.hid hb
                have hzw17 := hb.size
                (try simp only [World.size_alloc, World.size_setCell] at hzw17)
                have hzw170 : b2 < w17.heap.size := by omega
                have hzw171 : b3 < w17.heap.size := by omega
                obtain ⟨hcw17, hfw17⟩ := bcell hb
                clear hb hzw17
                go_wp2
                go_returns
                exact ⟨rfl, below_step HBw16.out HBXw17.out⟩
  · obtain ⟨x0, x1, x2, x3, xf, xs⟩ := cells_at4 (show _ = _ from HBX.out)
    go_wp2_with fail
    (go_at_call 24; refine (HINX.out _ _ _ _ _ HF2.out (HPu'.out.below (by first | exact Below.refl _ _ | (show Below w5.heap.size w5 _; go_grown)))).mono ?_; rintro e_ w6 ⟨rfl, hb⟩)
    have hPw6 : Below w5.heap.size w5 w6 := below_step (w := w5) (by first | exact Below.refl _ _ | go_grown) hb
    have hBw6 : Below w.heap.size w w6 := below_step hBw5 hPw6
    replace HML := Lib.hid (HML.out.below hPw6)
    replace HT := Lib.hid (HT.out.below hPw6)
    replace HU := Lib.hid (HU.out.below hPw6)
    replace HBX := Lib.hid (HBX.out.below hPw6)
    replace HPu' := Lib.hid (HPu'.out.below hPw6)
    have HB46 := Lib.hid (below_step HB45.out hPw6)
    clear x0 x1 x2 x3 xf xs
    clear hb hPw6 hBw5
    go_wp2
    go_loopw [10] (fun i wr => ∃ j : Nat, j ≤ ln ∧ i = .int .i64 j ∧ Below w6.heap.size w6 wr) (fun i _ => ln - (intOf i).toNat)
    case atStart => exact ⟨0, by omega, rfl, Below.refl _ _⟩
    case round =>
      obtain ⟨w9, rfl⟩ : ∃ x : World, x = wr := ⟨_, rfl⟩
      obtain ⟨j, hj, rfl, hB9⟩ := hrel
      have hBw9 : Below w.heap.size w w9 := below_step hBw6 hB9
      have hB49 : Below w4.heap.size w4 w9 := below_step HB46.out hB9
      replace HML := Lib.hid (HML.out.below hB9)
      replace HT := Lib.hid (HT.out.below hB9)
      replace HU := Lib.hid (HU.out.below hB9)
      replace HBX := Lib.hid (HBX.out.below hB9)
      replace HPu' := Lib.hid (HPu'.out.below hB9)
      have HB9 := Lib.hid hB9
      have HB49 := Lib.hid hB49
      have HBw9 := Lib.hid hBw9
      have k0 : (0 : Int) ≤ (j : Int) := by omega
      have hlb : ln ≤ 255000000 := HF3.out
      by_cases hjn : j < ln
      · obtain ⟨b2, f2, rfl, hbl2, hcl2⟩ := HPL.out j hjn
        have cpj : w9.cell? ⟨b2, f2 + j, none⟩ = some (.int .i64 (pathF PR j)) := (hB49.cell (p := ⟨_, _, none⟩) hbl2).trans (hcl2 j hjn)
        obtain ⟨hi0, hi1⟩ := idxB_ix HF2.out j hjn
        have hsp := HF4.out j hjn
        obtain ⟨i, hi⟩ : ∃ i : Nat, pathF PR j = (i : Int) := ⟨(pathF PR j).toNat, by omega⟩
        rw [hi] at cpj hi0 hi1 hsp
        have hin : i < n := by omega
        rw [Int.toNat_natCast] at hsp
        obtain ⟨b1, f1, rfl, hbl1, hcl1⟩ := HEL.out i hin
        have c3 : w9.cell? ⟨b1, f1 + i * 4 + 3, none⟩ = some (.int .i64 (T i).S) := (hBw9.cell (p := ⟨_, _, none⟩) hbl1).trans (hcl1 i hin).2.2.2
        obtain ⟨s, hs4⟩ : ∃ l, (T i).S = l := ⟨_, rfl⟩
        rw [hs4] at c3 hsp
        have kd : decide (s < cs) = false := decide_eq_false (by omega)
        have z1 : b1 < w9.heap.size := by have := hBw9.size; omega
        have z2 : b2 < w9.heap.size := by have := hB49.size; omega
        have z3 : w.heap.size < w9.heap.size := block_lt HBX.out
        have k1 : (j : Int) < (ln : Int) := by omega
        obtain ⟨x0, x1, x2, x3, xf, xs⟩ := cells_at4 (show _ = _ from HBX.out)
        clear hcl1 hcl2 hi hs4 hsp hB9 hB49 hBw9
        go_wp2_with fail
        refine wp_region_relw 11 (by kernel_rfl) (by kernel_rfl) (by kernel_rfl) ?_
        simp only [List.take_succ_cons, List.take_zero, fillL, Act.put, List.setIfInBounds_toArray, List.set_cons_zero, List.set_cons_succ]
        iterate 11
          apply rel_is
          · intro u wx hb hd
            have hz := hb.size
            (try simp only [World.size_alloc, World.size_setCell] at hz)
            have hz0 : b1 < wx.heap.size := by omega
            have hz1 : b2 < wx.heap.size := by omega
            have hz2 : w.heap.size < wx.heap.size := by omega
            obtain ⟨hc, hf⟩ := bcell hb
            have HBX := Lib.hid hb
            clear hb hz
            simp [depsS, Region.binds, updS, Stay.is, Stay.any] at hd
            go_simp
            first | exact ⟨Below.refl _ _, rfl⟩ | rfl
        intro u wA hb hE
        have e0 : u 0 = _ := endS_get hE 0 (by decide)
        have e1 : u 1 = _ := endS_get hE 1 (by decide)
        have e2 : u 2 = _ := endS_get hE 2 (by decide)
        have e3 : u 3 = _ := endS_get hE 3 (by decide)
        have e4 : u 4 = _ := endS_get hE 4 (by decide)
        have e5 : u 5 = _ := endS_get hE 5 (by decide)
        have e6 : u 6 = _ := endS_get hE 6 (by decide)
        have e7 : u 7 = _ := endS_get hE 7 (by decide)
        have e8 : u 8 = _ := endS_get hE 8 (by decide)
        have e9 : u 9 = _ := endS_get hE 9 (by decide)
        have e10 : u 10 = _ := endS_get hE 10 (by decide)
        simp only [List.drop_succ_cons, List.drop_zero, List.take_succ_cons, List.take_zero, fillL, Act.put, List.setIfInBounds_toArray, List.set_cons_zero, List.set_cons_succ, e0, e1, e2, e3, e4, e5, e6, e7, e8, e9, e10]
        clear e0 e1 e2 e3 e4 e5 e6 e7 e8 e9 e10 hE
        have HBwA := Lib.hid (below_step (w := w9) (by first | assumption | go_grown) hb)
        have HBXwA := Lib.hid hb
        have hzwA := hb.size
        (try simp only [World.size_alloc, World.size_setCell] at hzwA)
        have hzwA0 : b1 < wA.heap.size := by omega
        have hzwA1 : b2 < wA.heap.size := by omega
        have hzwA2 : w.heap.size < wA.heap.size := by omega
        obtain ⟨hcwA, hfwA⟩ := bcell hb
        clear hb hzwA
        go_wp2
        go_roundw
        case rel => exact ⟨j + 1, by omega, by go_num, below_step HB9.out HBXwA.out⟩
        case measure => simp [intOf]; omega
      · clear k0 hB9 hB49 hBw9 HB9
        have hBw9 := HBw9.out
        obtain ⟨IX, hIX⟩ : ∃ b, idxB n f nu = b := ⟨_, rfl⟩
        have HIX := Lib.hid hIX
        clear hIX
        go_wp2_with fail
        (go_at_call 24; refine (HINX.out _ _ _ _ _ HIX.out (HU.out.below (by first | exact Below.refl _ _ | (show Below w9.heap.size w9 _; go_grown)))).mono ?_; rintro e_ w10 ⟨rfl, hb⟩)
        have hPw10 : Below w9.heap.size w9 w10 := below_step (w := w9) (by first | exact Below.refl _ _ | go_grown) hb
        have hBw10 : Below w.heap.size w w10 := below_step hBw9 hPw10
        replace HML := Lib.hid (HML.out.below hPw10)
        replace HT := Lib.hid (HT.out.below hPw10)
        replace HU := Lib.hid (HU.out.below hPw10)
        replace HBX := Lib.hid (HBX.out.below hPw10)
        replace HPu' := Lib.hid (HPu'.out.below hPw10)
        have HB4a := Lib.hid (below_step HB49.out hPw10)
        clear hb hPw10 hBw9
        cases IX
        · go_wp2_with fail
          (go_at_call 11; refine (alive_any _ (HML.out.below (by first | exact Below.refl _ _ | (show Below w10.heap.size w10 _; go_grown)))).mono ?_; rintro e_ wz ⟨rfl, hb⟩)
          have hPwz : Below w10.heap.size w10 wz := below_step (w := w10) (by first | exact Below.refl _ _ | go_grown) hb
          have hBwz : Below w.heap.size w wz := below_step hBw10 hPwz
          clear hb hPwz hBw10
          go_wp2
          go_returns
          exact ⟨rfl, hBwz⟩
        obtain ⟨WY, hWY⟩ : ∃ b, isWayB T cf ct f nu = b := ⟨_, rfl⟩
        have HWY := Lib.hid hWY
        clear hWY
        obtain ⟨x0, x1, x2, x3, xf, xs⟩ := cells_at4 (show _ = _ from HBX.out)
        go_wp2_with fail
        (go_at_call 25; refine (HWAY.out _ _ _ _ _ _ HWY.out (HT.out.below (by first | exact Below.refl _ _ | (show Below w10.heap.size w10 _; go_grown))) (HU.out.below (by first | exact Below.refl _ _ | (show Below w10.heap.size w10 _; go_grown))) HIX.out).mono ?_; rintro e_ w11 ⟨rfl, hb⟩)
        have hPw11 : Below w10.heap.size w10 w11 := below_step (w := w10) (by first | exact Below.refl _ _ | go_grown) hb
        have hBw11 : Below w.heap.size w w11 := below_step hBw10 hPw11
        replace HML := Lib.hid (HML.out.below hPw11)
        replace HT := Lib.hid (HT.out.below hPw11)
        replace HU := Lib.hid (HU.out.below hPw11)
        replace HBX := Lib.hid (HBX.out.below hPw11)
        replace HPu' := Lib.hid (HPu'.out.below hPw11)
        have HB4b := Lib.hid (below_step HB4a.out hPw11)
        clear x0 x1 x2 x3 xf xs
        clear hb hPw11 hBw10
        cases WY
        · go_wp2_with fail
          (go_at_call 11; refine (alive_any _ (HML.out.below (by first | exact Below.refl _ _ | (show Below w11.heap.size w11 _; go_grown)))).mono ?_; rintro e_ wz ⟨rfl, hb⟩)
          have hPwz : Below w11.heap.size w11 wz := below_step (w := w11) (by first | exact Below.refl _ _ | go_grown) hb
          have hBwz : Below w.heap.size w wz := below_step hBw11 hPwz
          clear hb hPwz hBw11
          go_wp2
          go_returns
          exact ⟨rfl, hBwz⟩
        go_wp2
        go_loopw [11] (fun i wr => ∃ j : Nat, j ≤ nu ∧ i = .int .i64 j ∧ Hid (∀ q, q < j → cs ≤ (T (f q).toNat).S) ∧ Below w11.heap.size w11 wr) (fun i _ => nu - (intOf i).toNat)
        case atStart => exact ⟨0, by omega, rfl, fun q hq => by omega, Below.refl _ _⟩
        case round =>
          obtain ⟨w12, rfl⟩ : ∃ x : World, x = wr := ⟨_, rfl⟩
          obtain ⟨j, hj, rfl, HSP, hBc⟩ := hrel
          have hBw12 : Below w.heap.size w w12 := below_step hBw11 hBc
          have hB4c : Below w4.heap.size w4 w12 := below_step HB4b.out hBc
          replace HML := Lib.hid (HML.out.below hBc)
          replace HT := Lib.hid (HT.out.below hBc)
          replace HU := Lib.hid (HU.out.below hBc)
          replace HBX := Lib.hid (HBX.out.below hBc)
          replace HPu' := Lib.hid (HPu'.out.below hBc)
          have HBc := Lib.hid hBc
          have HB4c := Lib.hid hB4c
          have HBw12 := Lib.hid hBw12
          have k0 : (0 : Int) ≤ (j : Int) := by omega
          by_cases hjn : j < nu
          · obtain ⟨b2, f2, rfl, hbl2, hcl2⟩ := HUL.out j hjn
            have cpj : w12.cell? ⟨b2, f2 + j, none⟩ = some (.int .i64 (f j)) := (hBw12.cell (p := ⟨_, _, none⟩) hbl2).trans (hcl2 j hjn)
            obtain ⟨hi0, hi1⟩ := idxB_ix HIX.out j hjn
            obtain ⟨i, hi⟩ : ∃ i : Nat, f j = (i : Int) := ⟨(f j).toNat, by omega⟩
            rw [hi] at cpj hi0 hi1
            have hin : i < n := by omega
            obtain ⟨b1, f1, rfl, hbl1, hcl1⟩ := HEL.out i hin
            have c3 : w12.cell? ⟨b1, f1 + i * 4 + 3, none⟩ = some (.int .i64 (T i).S) := (hBw12.cell (p := ⟨_, _, none⟩) hbl1).trans (hcl1 i hin).2.2.2
            obtain ⟨s, hs4⟩ : ∃ l, (T i).S = l := ⟨_, rfl⟩
            rw [hs4] at c3
            have z1 : b1 < w12.heap.size := by have := hBw12.size; omega
            have z2 : b2 < w12.heap.size := by have := hBw12.size; omega
            have z3 : w.heap.size < w12.heap.size := block_lt HBX.out
            have k1 : (j : Int) < (nu : Int) := by omega
            have hsz : s = (T (f j).toNat).S := by rw [hi, Int.toNat_natCast, hs4]
            have HSZ := Lib.hid hsz
            clear hcl1 hcl2 hi hs4 hsz hBc hB4c
            by_cases hsc : s < cs
            · have kd : decide (s < cs) = true := decide_eq_true hsc
              clear hsc
              obtain ⟨x0, x1, x2, x3, xf, xs⟩ := cells_at4 (show _ = _ from HBX.out)
              go_wp2_with fail
              refine wp_region_relw 11 (by kernel_rfl) (by kernel_rfl) (by kernel_rfl) ?_
              simp only [List.take_succ_cons, List.take_zero, fillL, Act.put, List.setIfInBounds_toArray, List.set_cons_zero, List.set_cons_succ]
              iterate 11
                apply rel_is
                · intro u wx hb hd
                  have hz := hb.size
                  (try simp only [World.size_alloc, World.size_setCell] at hz)
                  have hz0 : b1 < wx.heap.size := by omega
                  have hz1 : b2 < wx.heap.size := by omega
                  have hz2 : w.heap.size < wx.heap.size := by omega
                  obtain ⟨hc, hf⟩ := bcell hb
                  have HBX := Lib.hid hb
                  clear hb hz
                  simp [depsS, Region.binds, updS, Stay.is, Stay.any] at hd
                  go_simp
                  first | exact ⟨Below.refl _ _, rfl⟩ | rfl
              intro u wA hb hE
              have e0 : u 0 = _ := endS_get hE 0 (by decide)
              have e1 : u 1 = _ := endS_get hE 1 (by decide)
              have e2 : u 2 = _ := endS_get hE 2 (by decide)
              have e3 : u 3 = _ := endS_get hE 3 (by decide)
              have e4 : u 4 = _ := endS_get hE 4 (by decide)
              have e5 : u 5 = _ := endS_get hE 5 (by decide)
              have e6 : u 6 = _ := endS_get hE 6 (by decide)
              have e7 : u 7 = _ := endS_get hE 7 (by decide)
              have e8 : u 8 = _ := endS_get hE 8 (by decide)
              have e9 : u 9 = _ := endS_get hE 9 (by decide)
              have e10 : u 10 = _ := endS_get hE 10 (by decide)
              simp only [List.drop_succ_cons, List.drop_zero, List.take_succ_cons, List.take_zero, fillL, Act.put, List.setIfInBounds_toArray, List.set_cons_zero, List.set_cons_succ, e0, e1, e2, e3, e4, e5, e6, e7, e8, e9, e10]
              clear e0 e1 e2 e3 e4 e5 e6 e7 e8 e9 e10 hE
              have HBwA := Lib.hid (below_step (w := w12) (by first | assumption | go_grown) hb)
              have HBXwA := Lib.hid hb
              have hzwA := hb.size
              (try simp only [World.size_alloc, World.size_setCell] at hzwA)
              have hzwA0 : b1 < wA.heap.size := by omega
              have hzwA1 : b2 < wA.heap.size := by omega
              have hzwA2 : w.heap.size < wA.heap.size := by omega
              obtain ⟨hcwA, hfwA⟩ := bcell hb
              clear hb hzwA
              replace HML := Lib.hid (HML.out.below HBXwA.out)
              have hBwA := below_step hBw12 HBXwA.out
              clear hcwA hfwA c3 cpj x0 x1 x2 x3 xf xs
              go_wp2_with fail
              (go_at_call 11; refine (alive_any _ (HML.out.below (by first | exact Below.refl _ _ | (show Below wA.heap.size wA _; go_grown)))).mono ?_; rintro e_ wz ⟨rfl, hb⟩)
              have hPwz : Below wA.heap.size wA wz := below_step (w := wA) (by first | exact Below.refl _ _ | go_grown) hb
              have hBwz : Below w.heap.size w wz := below_step hBwA hPwz
              clear hb hPwz hBwA
              go_wp2
              go_returns
              exact ⟨rfl, hBwz⟩
            · have kd : decide (s < cs) = false := decide_eq_false hsc
              have HSP2 : Hid (∀ q, q < j + 1 → cs ≤ (T (f q).toNat).S) := fun q hq => by
                by_cases e : q = j
                · rw [e, ← HSZ.out]; omega
                · exact HSP.out q (by omega)
              clear hsc hBw12
              obtain ⟨x0, x1, x2, x3, xf, xs⟩ := cells_at4 (show _ = _ from HBX.out)
              go_wp2_with fail
              refine wp_region_relw 11 (by kernel_rfl) (by kernel_rfl) (by kernel_rfl) ?_
              simp only [List.take_succ_cons, List.take_zero, fillL, Act.put, List.setIfInBounds_toArray, List.set_cons_zero, List.set_cons_succ]
              iterate 11
                apply rel_is
                · intro u wx hb hd
                  have hz := hb.size
                  (try simp only [World.size_alloc, World.size_setCell] at hz)
                  have hz0 : b1 < wx.heap.size := by omega
                  have hz1 : b2 < wx.heap.size := by omega
                  have hz2 : w.heap.size < wx.heap.size := by omega
                  obtain ⟨hc, hf⟩ := bcell hb
                  have HBX := Lib.hid hb
                  clear hb hz
                  simp [depsS, Region.binds, updS, Stay.is, Stay.any] at hd
                  go_simp
                  first | exact ⟨Below.refl _ _, rfl⟩ | rfl
              intro u wA hb hE
              have e0 : u 0 = _ := endS_get hE 0 (by decide)
              have e1 : u 1 = _ := endS_get hE 1 (by decide)
              have e2 : u 2 = _ := endS_get hE 2 (by decide)
              have e3 : u 3 = _ := endS_get hE 3 (by decide)
              have e4 : u 4 = _ := endS_get hE 4 (by decide)
              have e5 : u 5 = _ := endS_get hE 5 (by decide)
              have e6 : u 6 = _ := endS_get hE 6 (by decide)
              have e7 : u 7 = _ := endS_get hE 7 (by decide)
              have e8 : u 8 = _ := endS_get hE 8 (by decide)
              have e9 : u 9 = _ := endS_get hE 9 (by decide)
              have e10 : u 10 = _ := endS_get hE 10 (by decide)
              simp only [List.drop_succ_cons, List.drop_zero, List.take_succ_cons, List.take_zero, fillL, Act.put, List.setIfInBounds_toArray, List.set_cons_zero, List.set_cons_succ, e0, e1, e2, e3, e4, e5, e6, e7, e8, e9, e10]
              clear e0 e1 e2 e3 e4 e5 e6 e7 e8 e9 e10 hE
              have HBwA := Lib.hid (below_step (w := w12) (by first | assumption | go_grown) hb)
              have HBXwA := Lib.hid hb
              have hzwA := hb.size
              (try simp only [World.size_alloc, World.size_setCell] at hzwA)
              have hzwA0 : b1 < wA.heap.size := by omega
              have hzwA1 : b2 < wA.heap.size := by omega
              have hzwA2 : w.heap.size < wA.heap.size := by omega
              obtain ⟨hcwA, hfwA⟩ := bcell hb
              clear hb hzwA
              go_wp2
              go_roundw
              case rel => exact ⟨j + 1, by omega, by go_num, HSP2, below_step HBc.out HBXwA.out⟩
              case measure => simp [intOf]; omega
          · have HSP3 : Hid (∀ q, q < nu → cs ≤ (T (f q).toNat).S) := fun q hq => HSP.out q (by omega)
            clear k0 hBc hB4c hBw12 HBc HSP
            have hBw12 := HBw12.out
            obtain ⟨g1, g2, g3⟩ := shortest HCE.out HWY.out (idxB_ix HIX.out) HSP3.out
            rw [HE.out] at g1
            rw [HPR.out] at g3
            rw [HD.out] at g2 g3
            rw [HLN.out] at g3
            obtain ⟨SM, hSM⟩ : ∃ s, sumF T f nu = s := ⟨_, rfl⟩
            rw [hSM] at g2 g3
            have HSM := Lib.hid hSM
            have HG3 := Lib.hid g3
            have kD : decide (SM < D) = false := decide_eq_false (by omega)
            clear g3 hSM
            exact absurd g1 (by decide)

set_option maxRecDepth 100000 in
theorem cableShortest_contract (H : Type) (enc : TypeId × Value → H) (W : World) (base : Nat) (args : Array Value) (ds gs : List (DataW H)) (before : List MemPlace)
    (hval : ∀ (j : Nat) t v, Tryd.f7.params[j]? = some t → args[j]? = some v → Value.okWide Tryd.prog W .any base t v)
    (hW : DataW.Whole enc Tryd.prog Tryd.f7.params.toList Rows.cableShortestSpec.vars false W args.toList ds gs before) (hL : laidMetH Tryd.prog Rows.cableShortestRow.laid W) (hSh : W.ShapedOpen Tryd.prog) :
    Calls Tryd.prog 7 args W fun e W' => ∃ v, e = .returned v ∧ Rows.cableShortestSpec.post enc Tryd.prog Tryd.f7 false true false false W args v W' := by
  have hW' := hW
  obtain ⟨p, q, hA0, hV, rfl, hfz, hnd⟩ := hW
  have hA : DataW.TrodAll enc Tryd.prog W 0 (fun _ => true) true Tryd.f7.params.toList args.toList ds p := hA0
  rw [Tryd.params7] at hA hval
  obtain ⟨v0, vs0, d0, ds0, p0, q0, hargs, rfl, rfl, h0, r0⟩ := trodAll_cons hA
  obtain ⟨v1, vs1, d1, ds1, p1, q1, rfl, rfl, rfl, h1, r1⟩ := trodAll_cons r0
  obtain ⟨v2, vs2, d2, ds2, p2, q2, rfl, rfl, rfl, h2, r2⟩ := trodAll_cons r1
  obtain ⟨rfl, rfl, rfl⟩ := trodAll_nil r2
  obtain rfl : args = #[v0, v1, v2] := by cases args; simp_all
  obtain ⟨n, T, ht⟩ := trays_arg (hval 0 22 v0 rfl rfl) h0
  obtain ⟨ci, cf, ct, cs, rfl⟩ := cable_arg (hval 1 34 v1 rfl rfl) h1
  obtain ⟨nu, f, hu⟩ := ints_arg (hval 2 32 v2 rfl rfl) h2
  refine (cableShortest_walk _ _ n nu T f ci cf ct cs W ht hu (maxLen_of W hSh)).mono fun e W' ⟨he, hb⟩ => ?_
  subst he
  exact ⟨_, rfl, law_post laidOut (by kernel_rfl) (by kernel_rfl) Tryd.underlying4 rfl hW' (fun _ => rfl) hb⟩
theorem cableShortest_laid (os : Os) : laidMet Tryd.prog Rows.cableShortestRow.laid ((laidWorld os).forCall (fun _ _ => 0) ⟨#[], #[.slice none 0 0, .agg #[.string ⟨#[]⟩, .int .i64 0, .int .i64 0, .int .i64 0], .slice none 0 0], []⟩).memory := laidMet_of_run' 8 (by kernel_rfl) (by kernel_rfl)
theorem cableShortest_reads (os : Os) {H : Type} (enc : TypeId × Value → H) : ∃ places, DataW.whole enc Tryd.prog ((laidWorld os).forCall (fun _ _ => 0) ⟨#[], #[.slice none 0 0, .agg #[.string ⟨#[]⟩, .int .i64 0, .int .i64 0, .int .i64 0], .slice none 0 0], []⟩).memory Tryd.f7.params.toList Rows.cableShortestSpec.vars false (#[.slice none 0 0, .agg #[.string ⟨#[]⟩, .int .i64 0, .int .i64 0, .int .i64 0], .slice none 0 0] : Array Value).toList 8 = some ([.nil, .agg [.lit (.string []), .lit (.int .i64 0), .lit (.int .i64 0), .lit (.int .i64 0)], .nil], [], places) := ⟨[], by kernel_rfl⟩
set_option maxRecDepth 100000 in
theorem cableShortest_lifted (os : Os) (started : os.Started) (H : Type) (enc : TypeId × Value → H) (F : Stop.Interp) :
    ReturnsInHanded {} Tryd.checked os 7 .any ((OpenSpec.ofChange Rows.cableShortestSpec).preRow enc Tryd.prog Tryd.f7 Rows.cableShortestRow.domain false Rows.cableShortestRow.laid) (((OpenSpec.ofChange Rows.cableShortestSpec).at F).post enc Tryd.prog Tryd.f7 false true false false) := by
  obtain ⟨places, hx⟩ := cableShortest_reads os enc
  refine returnsInHanded_of_row (C := Tryd.checked) (s := OpenSpec.ofChange Rows.cableShortestSpec) own started (by kernel_rfl) Tryd.func7
    (witness_row_at (enc := enc) (C := Tryd.checked) false (laidWorld os) #[.slice none 0 0, .agg #[.string ⟨#[]⟩, .int .i64 0, .int .i64 0, .int .i64 0], .slice none 0 0] rfl (by kernel_rfl) (by kernel_rfl) (by kernel_rfl)
      (OpenSpec.preRow_of_cond 8 hx (by kernel_rfl) (fun k hk => by cases hk) (by kernel_rfl) (cableShortest_laid os))) ?_
  intro W base args ds gs before hval hW _ _ _ hL hSh _
  exact cableShortest_contract H enc W base args ds gs before hval hW hL hSh
theorem cableShortest_said : Rows.CableShortestSaid :=
  OpenClaim.holds_of_cond 7 Tryd.f7 rfl rfl rfl rfl rfl rfl rfl ⟨rfl, rfl, rfl, rfl, rfl⟩ rfl rfl rfl rfl rfl (by kernel_rfl) Tryd.func7 (by kernel_rfl)
    (of_decide_eq_true (by kernel_rfl)) (by unfold Func.isWrapper; rw [if_neg (of_decide_eq_false (by kernel_rfl))]; exact ⟨rfl, rfl⟩)
    (fun os started H enc _ F => by rw [OpenClaim.pre_eq_preRow]; exact cableShortest_lifted os started H enc F)
theorem cableShortest_plain (f : FuncId) (fn : Func) (hf : Tryd.pinned.checked.prog.funcNamed "shipyard/shipyardlaw45.CableShortest" = some f) (hfn : Tryd.pinned.checked.prog.funcs[f]? = some fn) :
    false = Tryd.pinned.checked.prog.looks [] ∧ ∀ (j : Nat) t, fn.params[j]? = some t → Tryd.pinned.checked.prog.wantsStandIn t = false := by
  obtain rfl : f = 7 := Option.some.inj ((show Tryd.prog.funcNamed "shipyard/shipyardlaw45.CableShortest" = some 7 by kernel_rfl).symm.trans hf) |>.symm
  obtain rfl : fn = Tryd.f7 := (Option.some.inj (Tryd.func7.symm.trans hfn)).symm
  refine ⟨by kernel_rfl, fun j t ht => ?_⟩
  rw [Tryd.params7] at ht
  have hm : t ∈ [22, 34, 32] := by simpa using Array.mem_of_getElem? ht
  have hall : ([22, 34, 32].all fun u => !Tryd.prog.wantsStandIn u) = true := by kernel_rfl
  exact (show Tryd.prog.wantsStandIn t = false by simpa using List.all_eq_true.1 hall t hm)
/-- the card -/
theorem cableShortest_card : Rows.CableShortestCardSaid :=
  Claim7.holds_tied_plain_at .later [] _ _ _ _ cableShortest_said (fun _ h => by cases h) (by kernel_rfl) (fun _ h => by cases h) cableShortest_row_tie rfl ⟨rfl, rfl⟩ (by kernel_rfl) rfl cableShortest_plain (by kernel_rfl)
#print axioms cableShortest_card
end Go.Proofs.YtpkgadjglidnaaaDoor
