/-
  The reference's AddSheet and AddBar, by walks. Conditions: an ascending stock of at most 10^6 elements, identifiers of at most 2^31 bytes. By an AI agent.
-/
import Derived.Test.YtiddpaaihloopaaGreatDoorRAddA
namespace Go.Proofs.YtiddpaaihloopaaGreatDoor
open Go Go.ChangeShapes Go.WideShapes Go.RowKit Go.ChangeAt
set_option linter.unusedVariables false
set_option linter.unusedSimpArgs false
set_option maxRecDepth 100000
theorem built_at {w : World} {g : Nat} {xs : List Value} {t : TypeId} (h : w.heap[g]? = some (.cells xs.toArray t)) {ad : Addr} (had : some (⟨g, 0, none⟩ : Addr) = some ad) {j : Nat} {u : Value} (hj : xs[j]? = some u) : w.cell? (ad.add j) = some u := by
  cases had
  rw [Addr.add_lit, Nat.zero_add]
  simp [World.cell?, h, hj]

set_option maxHeartbeats 16000000 in
theorem RAddSheet_any (v : Value) (ns : Nat) (es : Nat → Sh) (nb : Nat) (eb : Nat → Br) (vm : Value) (m : Mat) (gv : Nat → Value) (x : Sh) (w : World) (h : StAt w v ns es nb eb) (hm : MatAt w vm m gv) (n1 : ns ≤ 1000000) (n2 : nb ≤ 1000000) (ha : AscB Sh.id es ns) (hi : x.id.size ≤ 2147483648) (hh : x.heat.size ≤ 2147483648) (hml : MaxLenIs w) :
    Calls Tryz.prog 10 #[v, vm, x.val] w fun e w' => ∃ v', e = .returned (.tuple #[v', .int .i64 (addS (sheetE m x) (addE Sh.id es ns x))]) ∧ StAt w' v' (if addS (sheetE m x) (addE Sh.id es ns x) = 0 then ns + 1 else 0) (insF es (placeI Sh.id es ns x.id) x) (if addS (sheetE m x) (addE Sh.id es ns x) = 0 then nb else 0) eb ∧ Below w.heap.size w w' := by
  have HM := Lib.hid hm
  have HML := Lib.hid hml
  have HASC := Lib.hid ha
  have HST := Lib.hid h
  obtain ⟨va, vb, rfl, hSh, hBr⟩ := h
  have HSH := Lib.hid hSh
  have HBR := Lib.hid hBr
  obtain ⟨oa, ca, rfl, hna, hca, hela⟩ := hSh.form
  obtain ⟨ob, cb, rfl, hnb, hcb, helb⟩ := hBr.form
  obtain ⟨vg, vs, rfl, hG, hS, -⟩ := hm
  obtain ⟨om, cm, rfl, -, -⟩ := hG.form
  obtain ⟨ot, ct, rfl, -, -⟩ := hS.form
  obtain ⟨iSheet, hiSheet, hz0Sheet, hz1Sheet, hz2Sheet⟩ := info_parts info_Sheet
  obtain ⟨iBar, hiBar, hz0Bar, hz1Bar, hz2Bar⟩ := info_parts info_Bar
  have HI := Lib.hid hi
  have HH := Lib.hid hh
  have HEL := Lib.hid hela
  obtain ⟨id', grade', thick', len', wid', heat'⟩ := x
  have hkind : ∀ W, Below w.heap.size w W → Calls Tryz.prog 32 #[.agg #[.slice om m.ng cm, .slice ot m.ns ct], .agg #[.string id', .string grade', .int .i64 thick', .int .i64 len', .int .i64 wid', .string heat']] W fun e w' => e = .returned (.int .i64 (sheetE m (⟨id', grade', thick', len', wid', heat'⟩ : Sh))) ∧ Below W.heap.size W w' := fun W hB => rsheet_any ⟨id', grade', thick', len', wid', heat'⟩ _ m gv W (HM.out.below hB) HI.out HH.out (HML.out.below hB)
  obtain ⟨EE, hEE⟩ : ∃ EE, sheetE m (⟨id', grade', thick', len', wid', heat'⟩ : Sh) = EE := ⟨_, rfl⟩
  obtain ⟨AE, hAE⟩ : ∃ AE, addE Sh.id es ns (⟨id', grade', thick', len', wid', heat'⟩ : Sh) = AE := ⟨_, rfl⟩
  obtain ⟨AT, hAT⟩ : ∃ AT, atE Sh.id es ns id' = AT := ⟨_, rfl⟩
  have HAT := Lib.hid hAT
  have HAE := Lib.hid hAE
  rw [hEE] at hkind
  have HK := Lib.hid hkind
  rw [hEE, hAE]
  obtain ⟨RR, hRR⟩ : ∃ RR, addS EE AE = RR := ⟨_, rfl⟩
  have HRR := Lib.hid hRR
  obtain ⟨NS, hNS⟩ : ∃ NS, (if RR = 0 then ns + 1 else 0) = NS := ⟨_, rfl⟩
  obtain ⟨NB, hNB⟩ : ∃ NB, (if RR = 0 then nb else 0) = NB := ⟨_, rfl⟩
  have HNS := Lib.hid hNS
  have HNB := Lib.hid hNB
  rw [hRR, hNS, hNB]
  obtain ⟨K, hK⟩ : ∃ K, placeI Sh.id es ns id' = K := ⟨_, rfl⟩
  show Calls Tryz.prog 10 #[.agg #[.slice oa ns ca, .slice ob nb cb], .agg #[.slice om m.ng cm, .slice ot m.ns ct], .agg #[.string id', .string grade', .int .i64 thick', .int .i64 len', .int .i64 wid', .string heat']] w fun e w' => ∃ v', e = .returned (.tuple #[v', .int .i64 RR]) ∧ StAt w' v' NS (insF es (placeI Sh.id es ns id') (⟨id', grade', thick', len', wid', heat'⟩ : Sh)) NB eb ∧ Below w.heap.size w w'
  have HKN : Hid (K ≤ ns) := by show _ ≤ _; rw [← hK]; exact placeI_le
  have HLT : Hid (∀ i, i < K → ltB (es i).id id' = true) := by show ∀ i, _; rw [← hK]; exact fun i hi => placeI_lt (f := Sh.id) hi
  have HGE : Hid (K < ns → ltB (es K).id id' = false) := by show _ → _; rw [← hK]; exact fun h => placeI_not (f := Sh.id) h
  rw [hK]
  clear hSh hBr hG hS hml ha hi hh hela helb hkind hEE hAE hRR hNS hNB hAT hK
  go_enter Tryz.func10, Tryz.ntmps10
  go_wp2_with fail
  (go_at_call 32; refine (HK.out _ (by go_grown)).mono ?_; rintro e_ w1 ⟨rfl, hb⟩)
  have hsw1 := hb.size
  (try simp only [World.size_alloc, World.size_setCell] at hsw1)
  have zzw1 : w.heap.size < w1.heap.size := by omega
  have hPw1 : Below w.heap.size w w1 := below_step (w := w) (by first | exact Below.refl _ _ | go_grown) hb
  have zsw1 : w.heap.size < w1.heap.size := by omega
  have s0w1 : w1.cell? ⟨w.heap.size, 0, none⟩ = some (.slice oa ns ca) := (hb.cell (p := ⟨_, _, none⟩) (by simp <;> omega)).trans (by simp [go_sem])
  have s1w1 : w1.cell? ⟨w.heap.size, 1, none⟩ = some (.slice ob nb cb) := (hb.cell (p := ⟨_, _, none⟩) (by simp <;> omega)).trans (by simp [go_sem])
  have zxw1 : w.heap.size + 1 + 1 < w1.heap.size := by omega
  have x0w1 : w1.cell? ⟨w.heap.size + 1 + 1, 0, none⟩ = some (.string id') := (hb.cell (p := ⟨_, _, none⟩) (by simp <;> omega)).trans (by simp [go_sem])
  have x1w1 : w1.cell? ⟨w.heap.size + 1 + 1, 1, none⟩ = some (.string grade') := (hb.cell (p := ⟨_, _, none⟩) (by simp <;> omega)).trans (by simp [go_sem])
  have x2w1 : w1.cell? ⟨w.heap.size + 1 + 1, 2, none⟩ = some (.int .i64 thick') := (hb.cell (p := ⟨_, _, none⟩) (by simp <;> omega)).trans (by simp [go_sem])
  have x3w1 : w1.cell? ⟨w.heap.size + 1 + 1, 3, none⟩ = some (.int .i64 len') := (hb.cell (p := ⟨_, _, none⟩) (by simp <;> omega)).trans (by simp [go_sem])
  have x4w1 : w1.cell? ⟨w.heap.size + 1 + 1, 4, none⟩ = some (.int .i64 wid') := (hb.cell (p := ⟨_, _, none⟩) (by simp <;> omega)).trans (by simp [go_sem])
  have x5w1 : w1.cell? ⟨w.heap.size + 1 + 1, 5, none⟩ = some (.string heat') := (hb.cell (p := ⟨_, _, none⟩) (by simp <;> omega)).trans (by simp [go_sem])
  have zrw1 : w.heap.size + 1 + 1 + 1 < w1.heap.size := by omega
  have r0w1 : w1.cell? ⟨w.heap.size + 1 + 1 + 1, 0, none⟩ = some (.slice none 0 0) := (hb.cell (p := ⟨_, _, none⟩) (by simp <;> omega)).trans (by simp [go_sem])
  have r1w1 : w1.cell? ⟨w.heap.size + 1 + 1 + 1, 1, none⟩ = some (.slice none 0 0) := (hb.cell (p := ⟨_, _, none⟩) (by simp <;> omega)).trans (by simp [go_sem])
  have fr0w1 : w1.frozen? ⟨w.heap.size + 1 + 1 + 1, 0, none⟩ = false := (hb.frozen (p := ⟨_, _, none⟩) (by simp <;> omega)).trans (by simp [go_sem])
  have fr1w1 : w1.frozen? ⟨w.heap.size + 1 + 1 + 1, 1, none⟩ = false := (hb.frozen (p := ⟨_, _, none⟩) (by simp <;> omega)).trans (by simp [go_sem])
  have hBw1 : Below w.heap.size w w1 := below_step (w := w) (by first | assumption | go_grown) hb
  clear hb hsw1 hPw1
  by_cases hE0 : EE = 0
  · subst hE0
    go_wp2_with fail
    (go_at_call 33; refine (rat_Sheet _ ns es nb eb id' _ (HST.out.below (by first | assumption | go_grown)) HASC.out).mono ?_; rintro e_ w2 ⟨rfl, hb⟩)
    rw [HAT.out]
    have hsw2 := hb.size
    (try simp only [World.size_alloc, World.size_setCell] at hsw2)
    have zzw2 : w.heap.size < w2.heap.size := by omega
    have hPw2 : Below w1.heap.size w1 w2 := below_step (w := w1) (by first | exact Below.refl _ _ | go_grown) hb
    have zsw2 : w.heap.size < w2.heap.size := by omega
    have s0w2 : w2.cell? ⟨w.heap.size, 0, none⟩ = some (.slice oa ns ca) := (hPw2.cell (p := ⟨_, _, none⟩) zsw1).trans s0w1
    have s1w2 : w2.cell? ⟨w.heap.size, 1, none⟩ = some (.slice ob nb cb) := (hPw2.cell (p := ⟨_, _, none⟩) zsw1).trans s1w1
    have zxw2 : w.heap.size + 1 + 1 < w2.heap.size := by omega
    have x0w2 : w2.cell? ⟨w.heap.size + 1 + 1, 0, none⟩ = some (.string id') := (hPw2.cell (p := ⟨_, _, none⟩) zxw1).trans x0w1
    have x1w2 : w2.cell? ⟨w.heap.size + 1 + 1, 1, none⟩ = some (.string grade') := (hPw2.cell (p := ⟨_, _, none⟩) zxw1).trans x1w1
    have x2w2 : w2.cell? ⟨w.heap.size + 1 + 1, 2, none⟩ = some (.int .i64 thick') := (hPw2.cell (p := ⟨_, _, none⟩) zxw1).trans x2w1
    have x3w2 : w2.cell? ⟨w.heap.size + 1 + 1, 3, none⟩ = some (.int .i64 len') := (hPw2.cell (p := ⟨_, _, none⟩) zxw1).trans x3w1
    have x4w2 : w2.cell? ⟨w.heap.size + 1 + 1, 4, none⟩ = some (.int .i64 wid') := (hPw2.cell (p := ⟨_, _, none⟩) zxw1).trans x4w1
    have x5w2 : w2.cell? ⟨w.heap.size + 1 + 1, 5, none⟩ = some (.string heat') := (hPw2.cell (p := ⟨_, _, none⟩) zxw1).trans x5w1
    have zrw2 : w.heap.size + 1 + 1 + 1 < w2.heap.size := by omega
    have r0w2 : w2.cell? ⟨w.heap.size + 1 + 1 + 1, 0, none⟩ = some (.slice none 0 0) := (hPw2.cell (p := ⟨_, _, none⟩) zrw1).trans r0w1
    have r1w2 : w2.cell? ⟨w.heap.size + 1 + 1 + 1, 1, none⟩ = some (.slice none 0 0) := (hPw2.cell (p := ⟨_, _, none⟩) zrw1).trans r1w1
    have fr0w2 : w2.frozen? ⟨w.heap.size + 1 + 1 + 1, 0, none⟩ = false := (hPw2.frozen (p := ⟨_, _, none⟩) zrw1).trans fr0w1
    have fr1w2 : w2.frozen? ⟨w.heap.size + 1 + 1 + 1, 1, none⟩ = false := (hPw2.frozen (p := ⟨_, _, none⟩) zrw1).trans fr1w1
    have hBw2 : Below w.heap.size w w2 := below_step (w := w) (by first | assumption | go_grown) hb
    clear hb hsw2 hPw2
    clear zsw1 zxw1 zrw1 s0w1 s1w1 x0w1 x1w1 x2w1 x3w1 x4w1 x5w1 r0w1 r1w1 fr0w1 fr1w1
    by_cases hfd : foundB Sh.id es ns id' = true
    · have HZ : Hid (RR = 7 ∧ NS = 0 ∧ NB = 0) := by
        have h1 : RR = 7 := by rw [← HRR.out, ← HAE.out]; show addS 0 (addE Sh.id es ns (⟨id', grade', thick', len', wid', heat'⟩ : Sh)) = 7; unfold addS addE; simp only [ne_eq, not_true_eq_false, if_false]; rw [if_pos hfd]
        exact ⟨h1, by rw [← HNS.out, if_neg (by rw [h1]; decide)], by rw [← HNB.out, if_neg (by rw [h1]; decide)]⟩
      have k1 : decide ((0 : Int) ≤ AT) = true := decide_eq_true (by have h2 := HAT.out; unfold atE at h2; rw [if_pos hfd] at h2; omega)
      go_wp2
      all_goals (refine bodyPost_ret (v := .tuple #[.agg #[.slice none 0 0, .slice none 0 0], .int .i64 7]) (by simp (maxDischargeDepth := 9) [results, Tryz.results10, go_sem, *]) rfl ?_)
      rw [HZ.out.1, HZ.out.2.1, HZ.out.2.2]
      exact ⟨_, rfl, St_zero _ _ _, by go_grown⟩
    · have k1 : decide ((0 : Int) ≤ AT) = false := decide_eq_false (by have h2 := HAT.out; unfold atE at h2; rw [if_neg hfd] at h2; omega)
      by_cases hful : 128 ≤ ns
      · have HZ : Hid (RR = 12 ∧ NS = 0 ∧ NB = 0) := by
          have h1 : RR = 12 := by rw [← HRR.out, ← HAE.out]; show addS 0 (addE Sh.id es ns (⟨id', grade', thick', len', wid', heat'⟩ : Sh)) = 12; unfold addS addE; simp only [ne_eq, not_true_eq_false, if_false]; rw [if_neg hfd, if_pos hful]
          exact ⟨h1, by rw [← HNS.out, if_neg (by rw [h1]; decide)], by rw [← HNB.out, if_neg (by rw [h1]; decide)]⟩
        have k2 : decide ((128 : Int) ≤ (ns : Int)) = true := decide_eq_true (by omega)
        go_wp2
        all_goals (refine bodyPost_ret (v := .tuple #[.agg #[.slice none 0 0, .slice none 0 0], .int .i64 12]) (by simp (maxDischargeDepth := 9) [results, Tryz.results10, go_sem, *]) rfl ?_)
        rw [HZ.out.1, HZ.out.2.1, HZ.out.2.2]
        exact ⟨_, rfl, St_zero _ _ _, by go_grown⟩
      · have HZ : Hid (RR = 0 ∧ NS = ns + 1 ∧ NB = nb) := by
          have h1 : RR = 0 := by rw [← HRR.out, ← HAE.out]; show addS 0 (addE Sh.id es ns (⟨id', grade', thick', len', wid', heat'⟩ : Sh)) = 0; unfold addS addE; simp only [ne_eq, not_true_eq_false, if_false]; rw [if_neg hfd, if_neg hful]
          exact ⟨h1, by rw [← HNS.out, if_pos h1], by rw [← HNB.out, if_pos h1]⟩
        have k2 : decide ((128 : Int) ≤ (ns : Int)) = false := decide_eq_false (by omega)
        go_wp2_with fail
        (go_at_call 34; refine (rcopied_any _ ns es nb eb _ (HST.out.below (by first | assumption | go_grown)) n1 n2).mono ?_; rintro e_ w3 ⟨va', vb', rfl, hx1, hx2, hx3, hx4, hb⟩)
        have hsw3 := hb.size
        (try simp only [World.size_alloc, World.size_setCell] at hsw3)
        have zzw3 : w.heap.size < w3.heap.size := by omega
        have hPw3 : Below w2.heap.size w2 w3 := below_step (w := w2) (by first | exact Below.refl _ _ | go_grown) hb
        have zsw3 : w.heap.size < w3.heap.size := by omega
        have s0w3 : w3.cell? ⟨w.heap.size, 0, none⟩ = some (.slice oa ns ca) := (hPw3.cell (p := ⟨_, _, none⟩) zsw2).trans s0w2
        have s1w3 : w3.cell? ⟨w.heap.size, 1, none⟩ = some (.slice ob nb cb) := (hPw3.cell (p := ⟨_, _, none⟩) zsw2).trans s1w2
        have zxw3 : w.heap.size + 1 + 1 < w3.heap.size := by omega
        have x0w3 : w3.cell? ⟨w.heap.size + 1 + 1, 0, none⟩ = some (.string id') := (hPw3.cell (p := ⟨_, _, none⟩) zxw2).trans x0w2
        have x1w3 : w3.cell? ⟨w.heap.size + 1 + 1, 1, none⟩ = some (.string grade') := (hPw3.cell (p := ⟨_, _, none⟩) zxw2).trans x1w2
        have x2w3 : w3.cell? ⟨w.heap.size + 1 + 1, 2, none⟩ = some (.int .i64 thick') := (hPw3.cell (p := ⟨_, _, none⟩) zxw2).trans x2w2
        have x3w3 : w3.cell? ⟨w.heap.size + 1 + 1, 3, none⟩ = some (.int .i64 len') := (hPw3.cell (p := ⟨_, _, none⟩) zxw2).trans x3w2
        have x4w3 : w3.cell? ⟨w.heap.size + 1 + 1, 4, none⟩ = some (.int .i64 wid') := (hPw3.cell (p := ⟨_, _, none⟩) zxw2).trans x4w2
        have x5w3 : w3.cell? ⟨w.heap.size + 1 + 1, 5, none⟩ = some (.string heat') := (hPw3.cell (p := ⟨_, _, none⟩) zxw2).trans x5w2
        have zrw3 : w.heap.size + 1 + 1 + 1 < w3.heap.size := by omega
        have r0w3 : w3.cell? ⟨w.heap.size + 1 + 1 + 1, 0, none⟩ = some (.slice none 0 0) := (hPw3.cell (p := ⟨_, _, none⟩) zrw2).trans r0w2
        have r1w3 : w3.cell? ⟨w.heap.size + 1 + 1 + 1, 1, none⟩ = some (.slice none 0 0) := (hPw3.cell (p := ⟨_, _, none⟩) zrw2).trans r1w2
        have fr0w3 : w3.frozen? ⟨w.heap.size + 1 + 1 + 1, 0, none⟩ = false := (hPw3.frozen (p := ⟨_, _, none⟩) zrw2).trans fr0w2
        have fr1w3 : w3.frozen? ⟨w.heap.size + 1 + 1 + 1, 1, none⟩ = false := (hPw3.frozen (p := ⟨_, _, none⟩) zrw2).trans fr1w2
        have hBw3 : Below w.heap.size w w3 := below_step (w := w) (by first | assumption | go_grown) hb
        have hz2 := Lib.hid zrw2
        have H1 := Lib.hid hx1
        have H2 := Lib.hid hx2
        have H3 := Lib.hid hx3
        have H4 := Lib.hid hx4
        obtain ⟨o1, c1, rfl, -, -, -⟩ := hx1.form
        obtain ⟨o2, c2, rfl, -, -, -⟩ := hx2.form
        clear hx1 hx2 hx3 hx4
        clear hb hsw3 hPw3
        clear zsw2 zxw2 zrw2 s0w2 s1w2 x0w2 x1w2 x2w2 x3w2 x4w2 x5w2 r0w2 r1w2 fr0w2 fr1w2
        go_wp2_with fail
        go_loopw [10] (fun i wr => ∃ j : Nat, j ≤ K ∧ i = .int .i64 j ∧ Below w3.heap.size w3 wr ∧ w3.heap.size < wr.heap.size ∧ wr.cell? ⟨w3.heap.size, 0, none⟩ = some (.slice o1 ns c1) ∧ wr.cell? ⟨w3.heap.size, 1, none⟩ = some (.slice o2 nb c2) ∧ wr.frozen? ⟨w3.heap.size, 0, none⟩ = false ∧ wr.frozen? ⟨w3.heap.size, 1, none⟩ = false) (fun i _ => K - (intOf i).toNat)
        case atStart => exact ⟨0, by omega, rfl, by first | exact Below.refl _ _ | go_grown, by simp <;> omega, by simp [go_sem], by simp [go_sem], by simp [go_sem], by simp [go_sem]⟩
        case round =>
          obtain ⟨w4, rfl⟩ : ∃ x : World, x = wr := ⟨_, rfl⟩
          obtain ⟨j, hj, rfl, hb, zow4, o0w4, o1w4, fo0w4, fo1w4⟩ := hrel
          have hsw4 := hb.size
          have zzw4 : w.heap.size < w4.heap.size := by omega
          have zsw4 : w.heap.size < w4.heap.size := by omega
          have s0w4 : w4.cell? ⟨w.heap.size, 0, none⟩ = some (.slice oa ns ca) := (hb.cell (p := ⟨_, _, none⟩) zsw3).trans s0w3
          have s1w4 : w4.cell? ⟨w.heap.size, 1, none⟩ = some (.slice ob nb cb) := (hb.cell (p := ⟨_, _, none⟩) zsw3).trans s1w3
          have zxw4 : w.heap.size + 1 + 1 < w4.heap.size := by omega
          have x0w4 : w4.cell? ⟨w.heap.size + 1 + 1, 0, none⟩ = some (.string id') := (hb.cell (p := ⟨_, _, none⟩) zxw3).trans x0w3
          have x1w4 : w4.cell? ⟨w.heap.size + 1 + 1, 1, none⟩ = some (.string grade') := (hb.cell (p := ⟨_, _, none⟩) zxw3).trans x1w3
          have x2w4 : w4.cell? ⟨w.heap.size + 1 + 1, 2, none⟩ = some (.int .i64 thick') := (hb.cell (p := ⟨_, _, none⟩) zxw3).trans x2w3
          have x3w4 : w4.cell? ⟨w.heap.size + 1 + 1, 3, none⟩ = some (.int .i64 len') := (hb.cell (p := ⟨_, _, none⟩) zxw3).trans x3w3
          have x4w4 : w4.cell? ⟨w.heap.size + 1 + 1, 4, none⟩ = some (.int .i64 wid') := (hb.cell (p := ⟨_, _, none⟩) zxw3).trans x4w3
          have x5w4 : w4.cell? ⟨w.heap.size + 1 + 1, 5, none⟩ = some (.string heat') := (hb.cell (p := ⟨_, _, none⟩) zxw3).trans x5w3
          have zrw4 : w.heap.size + 1 + 1 + 1 < w4.heap.size := by omega
          have r0w4 : w4.cell? ⟨w.heap.size + 1 + 1 + 1, 0, none⟩ = some (.slice none 0 0) := (hb.cell (p := ⟨_, _, none⟩) zrw3).trans r0w3
          have fr0w4 : w4.frozen? ⟨w.heap.size + 1 + 1 + 1, 0, none⟩ = false := (hb.frozen (p := ⟨_, _, none⟩) zrw3).trans fr0w3
          have r1w4 : w4.cell? ⟨w.heap.size + 1 + 1 + 1, 1, none⟩ = some (.slice none 0 0) := (hb.cell (p := ⟨_, _, none⟩) zrw3).trans r1w3
          have fr1w4 : w4.frozen? ⟨w.heap.size + 1 + 1 + 1, 1, none⟩ = false := (hb.frozen (p := ⟨_, _, none⟩) zrw3).trans fr1w3
          have hBw4 : Below w.heap.size w w4 := below_step (w := w) (by first | assumption | go_grown) hb
          have HBL := Lib.hid hb
          have HBW := Lib.hid hBw4
          have hnew4 : w.heap.size + 1 + 1 + 1 < w3.heap.size := zrw3
          clear hb hsw4
          by_cases hlt : j < K
          · have hjn : j < ns := by have := HKN.out; omega
            obtain ⟨b1, f1, rfl, hbl1, hcl1⟩ := HEL.out j hjn
            have c0 : w4.cell? ⟨b1, f1 + j * 6, none⟩ = some (.string (es j).id) := (HBW.out.cell (p := ⟨_, _, none⟩) hbl1).trans (hcl1 j hjn).1
            have hbr : b1 < w4.heap.size := by omega
            clear hcl1
            have k3 : decide ((j : Int) < (ns : Int)) = true := decide_eq_true (by omega)
            have k4 : Op.bytesLess (es j).id.toList id'.toList = true := HLT.out j hlt
            go_wp2_with fail
            refine wp_region_relw 16 (by kernel_rfl) (by kernel_rfl) (by kernel_rfl) ?_
            simp only [List.take_succ_cons, List.take_zero, fillL, Act.put, List.setIfInBounds_toArray, List.set_cons_zero, List.set_cons_succ]
            iterate 16
              apply rel_is
              · intro u wx hb hd
                have hz := hb.size
                (try simp only [World.size_alloc, World.size_setCell] at hz)
                have hz0 : w.heap.size < wx.heap.size := by omega
                have hz1 : w.heap.size + 1 + 1 < wx.heap.size := by omega
                have hz2 : w.heap.size + 1 + 1 + 1 < wx.heap.size := by omega
                have hz3 : w3.heap.size < wx.heap.size := by omega
                have hz4 : b1 < wx.heap.size := by omega
                obtain ⟨hc, hf⟩ := bcell hb
                have HBX := Lib.hid hb
                clear hb hz
                simp [depsS, Region.binds, updS, Stay.is, Stay.any] at hd
                go_simp
                first | exact ⟨Below.refl _ _, rfl⟩ | rfl
            intro u w8 hb hE
            have e0 : u 0 = _ := endS_get hE 0 (by decide)
            have e1 : u 1 = _ := endS_get hE 1 (by decide)
            have e2 : u 2 = _ := endS_get hE 2 (by decide)
            have e3 : u 3 = _ := endS_get hE 3 (by decide)
            have e4 : u 4 = _ := endS_get hE 4 (by decide)
            have e5 : u 5 = _ := endS_get hE 5 (by decide)
            have e6 : u 6 = _ := endS_get hE 6 (by decide)
            have e7 : u 7 = _ := endS_get hE 7 (by decide)
            have e8 : u 8 = _ := endS_get hE 8 (by decide)
            have e9 : u 9 = _ := endS_get hE 9 (by decide)
            have e10 : u 10 = _ := endS_get hE 10 (by decide)
            have e11 : u 11 = _ := endS_get hE 11 (by decide)
            have e12 : u 12 = _ := endS_get hE 12 (by decide)
            have e13 : u 13 = _ := endS_get hE 13 (by decide)
            have e14 : u 14 = _ := endS_get hE 14 (by decide)
            have e15 : u 15 = _ := endS_get hE 15 (by decide)
            simp only [List.drop_succ_cons, List.drop_zero, List.take_succ_cons, List.take_zero, fillL, Act.put, List.setIfInBounds_toArray, List.set_cons_zero, List.set_cons_succ, e0, e1, e2, e3, e4, e5, e6, e7, e8, e9, e10, e11, e12, e13, e14, e15]
            clear e0 e1 e2 e3 e4 e5 e6 e7 e8 e9 e10 e11 e12 e13 e14 e15 hE
            have HBw8 := Lib.hid (below_step (w := w4) (by first | assumption | go_grown) hb)
            have HBXw8 := Lib.hid hb
            have hzw8 := hb.size
            (try simp only [World.size_alloc, World.size_setCell] at hzw8)
            have hzw80 : w.heap.size < w8.heap.size := by omega
            have hzw81 : w.heap.size + 1 + 1 < w8.heap.size := by omega
            have hzw82 : w.heap.size + 1 + 1 + 1 < w8.heap.size := by omega
            have hzw83 : w3.heap.size < w8.heap.size := by omega
            have hzw84 : b1 < w8.heap.size := by omega
            obtain ⟨hcw8, hfw8⟩ := bcell hb
            clear hb hzw8
            go_wp2
            go_roundw
            case rel => exact ⟨j + 1, by omega, by go_num, below_step HBL.out HBXw8.out, by omega, (HBXw8.out.cell (p := ⟨_, _, none⟩) zow4).trans o0w4, (HBXw8.out.cell (p := ⟨_, _, none⟩) zow4).trans o1w4, (HBXw8.out.frozen (p := ⟨_, _, none⟩) zow4).trans fo0w4, (HBXw8.out.frozen (p := ⟨_, _, none⟩) zow4).trans fo1w4⟩
            case measure => simp [intOf]; omega
          · obtain rfl : K = j := by omega
            obtain ⟨p1, pc1, hs1, hh1⟩ := head_Sheet HSH.out HKN.out
            obtain ⟨p2, pc2, hs2, hh2⟩ := tail_Sheet HSH.out HKN.out
            have HS1 := Lib.hid hs1
            have HS2 := Lib.hid hs2
            have HH1 := Lib.hid hh1
            have HH2 := Lib.hid hh2
            clear hs1 hs2 hh1 hh2
            by_cases hkn : K < ns
            · obtain ⟨b1, f1, rfl, hbl1, hcl1⟩ := HEL.out K hkn
              have c0 : w4.cell? ⟨b1, f1 + K * 6, none⟩ = some (.string (es K).id) := (HBW.out.cell (p := ⟨_, _, none⟩) hbl1).trans (hcl1 K hkn).1
              have hbr : b1 < w4.heap.size := by omega
              clear hcl1
              have k3 : decide ((K : Int) < (ns : Int)) = true := decide_eq_true (by omega)
              have k4 : Op.bytesLess (es K).id.toList id'.toList = false := HGE.out hkn
              go_wp2_with fail
              refine wp_region_relw 16 (by kernel_rfl) (by kernel_rfl) (by kernel_rfl) ?_
              simp only [List.take_succ_cons, List.take_zero, fillL, Act.put, List.setIfInBounds_toArray, List.set_cons_zero, List.set_cons_succ]
              iterate 16
                apply rel_is
                · intro u wx hb hd
                  have hz := hb.size
                  (try simp only [World.size_alloc, World.size_setCell] at hz)
                  have hz0 : w.heap.size < wx.heap.size := by omega
                  have hz1 : w.heap.size + 1 + 1 < wx.heap.size := by omega
                  have hz2 : w.heap.size + 1 + 1 + 1 < wx.heap.size := by omega
                  have hz3 : w3.heap.size < wx.heap.size := by omega
                  have hz4 : b1 < wx.heap.size := by omega
                  obtain ⟨hc, hf⟩ := bcell hb
                  have HBX := Lib.hid hb
                  clear hb hz
                  simp [depsS, Region.binds, updS, Stay.is, Stay.any] at hd
                  go_simp
                  first | exact ⟨Below.refl _ _, rfl⟩ | rfl
              intro u w8 hb hE
              have e0 : u 0 = _ := endS_get hE 0 (by decide)
              have e1 : u 1 = _ := endS_get hE 1 (by decide)
              have e2 : u 2 = _ := endS_get hE 2 (by decide)
              have e3 : u 3 = _ := endS_get hE 3 (by decide)
              have e4 : u 4 = _ := endS_get hE 4 (by decide)
              have e5 : u 5 = _ := endS_get hE 5 (by decide)
              have e6 : u 6 = _ := endS_get hE 6 (by decide)
              have e7 : u 7 = _ := endS_get hE 7 (by decide)
              have e8 : u 8 = _ := endS_get hE 8 (by decide)
              have e9 : u 9 = _ := endS_get hE 9 (by decide)
              have e10 : u 10 = _ := endS_get hE 10 (by decide)
              have e11 : u 11 = _ := endS_get hE 11 (by decide)
              have e12 : u 12 = _ := endS_get hE 12 (by decide)
              have e13 : u 13 = _ := endS_get hE 13 (by decide)
              have e14 : u 14 = _ := endS_get hE 14 (by decide)
              have e15 : u 15 = _ := endS_get hE 15 (by decide)
              simp only [List.drop_succ_cons, List.drop_zero, List.take_succ_cons, List.take_zero, fillL, Act.put, List.setIfInBounds_toArray, List.set_cons_zero, List.set_cons_succ, e0, e1, e2, e3, e4, e5, e6, e7, e8, e9, e10, e11, e12, e13, e14, e15]
              clear e0 e1 e2 e3 e4 e5 e6 e7 e8 e9 e10 e11 e12 e13 e14 e15 hE
              have HBw8 := Lib.hid (below_step (w := w4) (by first | assumption | go_grown) hb)
              have HBXw8 := Lib.hid hb
              have hzw8 := hb.size
              (try simp only [World.size_alloc, World.size_setCell] at hzw8)
              have hzw80 : w.heap.size < w8.heap.size := by omega
              have hzw81 : w.heap.size + 1 + 1 < w8.heap.size := by omega
              have hzw82 : w.heap.size + 1 + 1 + 1 < w8.heap.size := by omega
              have hzw83 : w3.heap.size < w8.heap.size := by omega
              have hzw84 : b1 < w8.heap.size := by omega
              obtain ⟨hcw8, hfw8⟩ := bcell hb
              clear hb hzw8
              have HBW8 : Hid (Below w.heap.size w w8) := below_step HBW.out HBXw8.out
              have HBL8 : Hid (Below w3.heap.size w3 w8) := below_step HBL.out HBXw8.out
              have zo8 : w3.heap.size < w8.heap.size := by omega
              have zr8 : w.heap.size + 1 + 1 + 1 < w8.heap.size := by omega
              go_wp2_with fail
              refine wp_region_own 15 [(0, 5), (5, 8), (8, 13)] (by kernel_rfl) (by kernel_rfl) (by kernel_rfl) (by kernel_rfl) (by kernel_rfl) ?_
              simp only [List.take_succ_cons, List.take_zero, fillL, Act.put, List.setIfInBounds_toArray, List.set_cons_zero, List.set_cons_succ]
              refine relo_new (OwnS.row w8.heap.size 31 6 0 []) ?_ ?_
              · intro u wx hb hd
                have hz := hb.size
                (try simp only [World.size_alloc, World.size_setCell] at hz)
                have hz0 : w.heap.size < wx.heap.size := by omega
                have hz1 : w.heap.size + 1 + 1 < wx.heap.size := by omega
                have hz2 : w.heap.size + 1 + 1 + 1 < wx.heap.size := by omega
                have hz3 : w3.heap.size < wx.heap.size := by omega
                obtain ⟨hc, hf⟩ := bcell hb
                have HBX := Lib.hid hb
                clear hb hz
                simp [depsO, Region.binds, updO, OwnS.is, OwnS.any, eaten, eats] at hd
                refine ⟨by simp [Region.wanted], ?_⟩
                go_simp
                exact ⟨(Below.refl _ _).alloc (Nat.le_refl _) _, ownsRow_built0 _ _ _ (by have := HBX.out.size; omega), fun b hb => by simp [OwnS.row, Value.ownBlock] at hb; omega⟩
              apply relo_is
              · intro u wx hb hd
                have hz := hb.size
                (try simp only [World.size_alloc, World.size_setCell] at hz)
                have hz0 : w.heap.size < wx.heap.size := by omega
                have hz1 : w.heap.size + 1 + 1 < wx.heap.size := by omega
                have hz2 : w.heap.size + 1 + 1 + 1 < wx.heap.size := by omega
                have hz3 : w3.heap.size < wx.heap.size := by omega
                obtain ⟨hc, hf⟩ := bcell hb
                have HBX := Lib.hid hb
                clear hb hz
                simp [depsO, Region.binds, updO, OwnS.is, OwnS.any, eaten, eats] at hd
                go_simp
                first | exact ⟨Below.refl _ _, rfl⟩ | rfl
              apply relo_is
              · intro u wx hb hd
                have hz := hb.size
                (try simp only [World.size_alloc, World.size_setCell] at hz)
                have hz0 : w.heap.size < wx.heap.size := by omega
                have hz1 : w.heap.size + 1 + 1 < wx.heap.size := by omega
                have hz2 : w.heap.size + 1 + 1 + 1 < wx.heap.size := by omega
                have hz3 : w3.heap.size < wx.heap.size := by omega
                obtain ⟨hc, hf⟩ := bcell hb
                have HBX := Lib.hid hb
                clear hb hz
                simp [depsO, Region.binds, updO, OwnS.is, OwnS.any, eaten, eats] at hd
                go_simp
                first | exact ⟨Below.refl _ _, rfl⟩ | rfl
              apply relo_is
              · intro u wx hb hd
                have hz := hb.size
                (try simp only [World.size_alloc, World.size_setCell] at hz)
                have hz0 : w.heap.size < wx.heap.size := by omega
                have hz1 : w.heap.size + 1 + 1 < wx.heap.size := by omega
                have hz2 : w.heap.size + 1 + 1 + 1 < wx.heap.size := by omega
                have hz3 : w3.heap.size < wx.heap.size := by omega
                obtain ⟨hc, hf⟩ := bcell hb
                have HBX := Lib.hid hb
                clear hb hz
                simp [depsO, Region.binds, updO, OwnS.is, OwnS.any, eaten, eats] at hd
                go_simp
                first | exact ⟨Below.refl _ _, rfl⟩ | rfl
              apply relo_is
              · intro u wx hb hd
                have hz := hb.size
                (try simp only [World.size_alloc, World.size_setCell] at hz)
                have hz0 : w.heap.size < wx.heap.size := by omega
                have hz1 : w.heap.size + 1 + 1 < wx.heap.size := by omega
                have hz2 : w.heap.size + 1 + 1 + 1 < wx.heap.size := by omega
                have hz3 : w3.heap.size < wx.heap.size := by omega
                obtain ⟨hc, hf⟩ := bcell hb
                have HBX := Lib.hid hb
                clear hb hz
                simp [depsO, Region.binds, updO, OwnS.is, OwnS.any, eaten, eats] at hd
                have hsl := HS1.out wx
                go_simp
                first | exact ⟨Below.refl _ _, rfl⟩ | rfl
              refine relo_append 0 (by decide) (by decide) (.tmp 49) (.tmp 53) 22 rfl rfl 31 iSheet _ 6 72 0 K [] (flatL Sh.enc ((rowL es ns).take K)) Tryz.underlying22 hiSheet hz0Sheet hz1Sheet hz2Sheet rfl (by decide) (fun v w h => h) (fun v b h => h) (by decide) (by have := HKN.out; unfold maxLen; omega) (by have := HKN.out; omega) (by rw [flatL_len Sh.enc_len, List.length_take, rowL_len, Nat.min_eq_left HKN.out]) (flatL_one Sh.enc_one _) ?_ ?_
              · intro u wx hb hd
                have hz := hb.size
                (try simp only [World.size_alloc, World.size_setCell] at hz)
                have hz0 : w.heap.size < wx.heap.size := by omega
                have hz1 : w.heap.size + 1 + 1 < wx.heap.size := by omega
                have hz2 : w.heap.size + 1 + 1 + 1 < wx.heap.size := by omega
                have hz3 : w3.heap.size < wx.heap.size := by omega
                obtain ⟨hc, hf⟩ := bcell hb
                have HBX := Lib.hid hb
                clear hb hz
                simp [depsO, Region.binds, updO, OwnS.is, OwnS.any, eaten, eats] at hd
                go_simp
                exact ⟨HH1.out.1, fun ad had j u hj => HH1.out.2 _ (below_step HBW8.out HBX.out) ad had j u hj⟩
              apply relo_is
              · intro u wx hb hd
                have hz := hb.size
                (try simp only [World.size_alloc, World.size_setCell] at hz)
                have hz0 : w.heap.size < wx.heap.size := by omega
                have hz1 : w.heap.size + 1 + 1 < wx.heap.size := by omega
                have hz2 : w.heap.size + 1 + 1 + 1 < wx.heap.size := by omega
                have hz3 : w3.heap.size < wx.heap.size := by omega
                obtain ⟨hc, hf⟩ := bcell hb
                have HBX := Lib.hid hb
                clear hb hz
                simp [depsO, Region.binds, updO, OwnS.is, OwnS.any, eaten, eats] at hd
                go_simp
                first | exact ⟨Below.refl _ _, rfl⟩ | rfl
              refine relo_new (OwnS.built 1 #[.string id', .string grade', .int .i64 thick', .int .i64 len', .int .i64 wid', .string heat'] 31) ?_ ?_
              · intro u wx hb hd
                have hz := hb.size
                (try simp only [World.size_alloc, World.size_setCell] at hz)
                have hz0 : w.heap.size < wx.heap.size := by omega
                have hz1 : w.heap.size + 1 + 1 < wx.heap.size := by omega
                have hz2 : w.heap.size + 1 + 1 + 1 < wx.heap.size := by omega
                have hz3 : w3.heap.size < wx.heap.size := by omega
                obtain ⟨hc, hf⟩ := bcell hb
                have HBX := Lib.hid hb
                clear hb hz
                simp [depsO, Region.binds, updO, OwnS.is, OwnS.any, eaten, eats] at hd
                refine ⟨by simp [Region.wanted], ?_⟩
                go_simp
                exact ⟨(Below.refl _ _).alloc (Nat.le_refl _) _, ⟨_, rfl, (MapKept.heap_alloc wx _).1⟩, fun b hb => by simp [OwnS.built, Value.ownBlock] at hb; omega⟩
              refine relo_append 5 (by decide) (by decide) (.tmp 54) (.tmp 56) 22 rfl rfl 31 iSheet _ 6 72 (0 + K) 1 _ [.string id', .string grade', .int .i64 thick', .int .i64 len', .int .i64 wid', .string heat'] Tryz.underlying22 hiSheet hz0Sheet hz1Sheet hz2Sheet rfl (by decide) (fun v w h => h) (fun v b h => h) (by decide) (by have := HKN.out; unfold maxLen; omega) (by have := HKN.out; omega) rfl (by intro u hu; simp at hu; rcases hu with rfl | rfl | rfl | rfl | rfl | rfl <;> rfl) ?_ ?_
              · intro u wx hb hd
                have hz := hb.size
                (try simp only [World.size_alloc, World.size_setCell] at hz)
                have hz0 : w.heap.size < wx.heap.size := by omega
                have hz1 : w.heap.size + 1 + 1 < wx.heap.size := by omega
                have hz2 : w.heap.size + 1 + 1 + 1 < wx.heap.size := by omega
                have hz3 : w3.heap.size < wx.heap.size := by omega
                obtain ⟨hc, hf⟩ := bcell hb
                have HBX := Lib.hid hb
                clear hb hz
                simp [depsO, Region.binds, updO, OwnS.is, OwnS.any, eaten, eats] at hd
                obtain ⟨g, hg1, hg2⟩ : ∃ g : Nat, u 7 = .slice (some ⟨g, 0, none⟩) 1 1 ∧ wx.heap[g]? = some (.cells #[.string id', .string grade', .int .i64 thick', .int .i64 len', .int .i64 wid', .string heat'] 31) := by
                  first | exact hd | exact hd.1 | exact hd.2 | exact hd.2.1 | exact hd.2.2
                have HG2 := Lib.hid hg2
                clear hg2
                go_simp
                first | (exact fun j u hj => by have h9 := built_at HG2.out (ad := ⟨g, 0, none⟩) rfl hj; rwa [Addr.add_lit, Nat.zero_add] at h9) | exact ⟨_, _, hg1, by simp, fun ad had j u hj => built_at HG2.out had hj⟩
              apply relo_is
              · intro u wx hb hd
                have hz := hb.size
                (try simp only [World.size_alloc, World.size_setCell] at hz)
                have hz0 : w.heap.size < wx.heap.size := by omega
                have hz1 : w.heap.size + 1 + 1 < wx.heap.size := by omega
                have hz2 : w.heap.size + 1 + 1 + 1 < wx.heap.size := by omega
                have hz3 : w3.heap.size < wx.heap.size := by omega
                obtain ⟨hc, hf⟩ := bcell hb
                have HBX := Lib.hid hb
                clear hb hz
                simp [depsO, Region.binds, updO, OwnS.is, OwnS.any, eaten, eats] at hd
                go_simp
                first | exact ⟨Below.refl _ _, rfl⟩ | rfl
              apply relo_is
              · intro u wx hb hd
                have hz := hb.size
                (try simp only [World.size_alloc, World.size_setCell] at hz)
                have hz0 : w.heap.size < wx.heap.size := by omega
                have hz1 : w.heap.size + 1 + 1 < wx.heap.size := by omega
                have hz2 : w.heap.size + 1 + 1 + 1 < wx.heap.size := by omega
                have hz3 : w3.heap.size < wx.heap.size := by omega
                obtain ⟨hc, hf⟩ := bcell hb
                have HBX := Lib.hid hb
                clear hb hz
                simp [depsO, Region.binds, updO, OwnS.is, OwnS.any, eaten, eats] at hd
                go_simp
                first | exact ⟨Below.refl _ _, rfl⟩ | rfl
              apply relo_is
              · intro u wx hb hd
                have hz := hb.size
                (try simp only [World.size_alloc, World.size_setCell] at hz)
                have hz0 : w.heap.size < wx.heap.size := by omega
                have hz1 : w.heap.size + 1 + 1 < wx.heap.size := by omega
                have hz2 : w.heap.size + 1 + 1 + 1 < wx.heap.size := by omega
                have hz3 : w3.heap.size < wx.heap.size := by omega
                obtain ⟨hc, hf⟩ := bcell hb
                have HBX := Lib.hid hb
                clear hb hz
                simp [depsO, Region.binds, updO, OwnS.is, OwnS.any, eaten, eats] at hd
                go_simp
                first | exact ⟨Below.refl _ _, rfl⟩ | rfl
              apply relo_is
              · intro u wx hb hd
                have hz := hb.size
                (try simp only [World.size_alloc, World.size_setCell] at hz)
                have hz0 : w.heap.size < wx.heap.size := by omega
                have hz1 : w.heap.size + 1 + 1 < wx.heap.size := by omega
                have hz2 : w.heap.size + 1 + 1 + 1 < wx.heap.size := by omega
                have hz3 : w3.heap.size < wx.heap.size := by omega
                obtain ⟨hc, hf⟩ := bcell hb
                have HBX := Lib.hid hb
                clear hb hz
                simp [depsO, Region.binds, updO, OwnS.is, OwnS.any, eaten, eats] at hd
                have hsl := HS2.out wx
                go_simp
                first | exact ⟨Below.refl _ _, rfl⟩ | rfl
              refine relo_append 8 (by decide) (by decide) (.tmp 57) (.tmp 61) 22 rfl rfl 31 iSheet _ 6 72 (0 + K + 1) (ns - K) _ (flatL Sh.enc ((rowL es ns).drop K)) Tryz.underlying22 hiSheet hz0Sheet hz1Sheet hz2Sheet rfl (by decide) (fun v w h => h) (fun v b h => h) (by decide) (by have := HKN.out; unfold maxLen; omega) (by have := HKN.out; omega) (by rw [flatL_len Sh.enc_len, List.length_drop, rowL_len]) (flatL_one Sh.enc_one _) ?_ ?_
              · intro u wx hb hd
                have hz := hb.size
                (try simp only [World.size_alloc, World.size_setCell] at hz)
                have hz0 : w.heap.size < wx.heap.size := by omega
                have hz1 : w.heap.size + 1 + 1 < wx.heap.size := by omega
                have hz2 : w.heap.size + 1 + 1 + 1 < wx.heap.size := by omega
                have hz3 : w3.heap.size < wx.heap.size := by omega
                obtain ⟨hc, hf⟩ := bcell hb
                have HBX := Lib.hid hb
                clear hb hz
                simp [depsO, Region.binds, updO, OwnS.is, OwnS.any, eaten, eats] at hd
                go_simp
                exact ⟨HH2.out.1, fun ad had j u hj => HH2.out.2 _ (below_step HBW8.out HBX.out) ad had j u hj⟩
              apply relo_is
              · intro u wx hb hd
                have hz := hb.size
                (try simp only [World.size_alloc, World.size_setCell] at hz)
                have hz0 : w.heap.size < wx.heap.size := by omega
                have hz1 : w.heap.size + 1 + 1 < wx.heap.size := by omega
                have hz2 : w.heap.size + 1 + 1 + 1 < wx.heap.size := by omega
                have hz3 : w3.heap.size < wx.heap.size := by omega
                obtain ⟨hc, hf⟩ := bcell hb
                have HBX := Lib.hid hb
                clear hb hz
                simp [depsO, Region.binds, updO, OwnS.is, OwnS.any, eaten, eats] at hd
                go_simp
                first | exact ⟨Below.refl _ _, rfl⟩ | rfl
              intro u w9 hb hE
              have e1 : u 1 = _ := endO_get hE 1 (by decide) (by decide)
              have e2 : u 2 = _ := endO_get hE 2 (by decide) (by decide)
              have e3 : u 3 = _ := endO_get hE 3 (by decide) (by decide)
              have e4 : u 4 = _ := endO_get hE 4 (by decide) (by decide)
              have e6 : u 6 = _ := endO_get hE 6 (by decide) (by decide)
              obtain ⟨y7, hy7⟩ : ∃ y, u 7 = y := ⟨_, rfl⟩
              have e9 : u 9 = _ := endO_get hE 9 (by decide) (by decide)
              have e10 : u 10 = _ := endO_get hE 10 (by decide) (by decide)
              have e11 : u 11 = _ := endO_get hE 11 (by decide) (by decide)
              have e12 : u 12 = _ := endO_get hE 12 (by decide) (by decide)
              have hO2 : w9.ownsRow _ _ _ (u 13) _ _ := endO_get hE 13 (by decide) (by decide)
              obtain ⟨v2, hv2⟩ : ∃ v2, u 13 = v2 := ⟨_, rfl⟩
              rw [hv2, show 0 + K + 1 + (ns - K) = ns + 1 by have := HKN.out; omega, show ([] : List Value) ++ flatL Sh.enc ((rowL es ns).take K) ++ [.string id', .string grade', .int .i64 thick', .int .i64 len', .int .i64 wid', .string heat'] ++ flatL Sh.enc ((rowL es ns).drop K) = flatL Sh.enc (rowL (insF es K (⟨id', grade', thick', len', wid', heat'⟩ : Sh)) (ns + 1)) by rw [rowL_ins es (⟨id', grade', thick', len', wid', heat'⟩ : Sh) HKN.out, flatL_append, flatL_append, List.nil_append, List.append_assoc]; rfl] at hO2
              have HO2 := Lib.hid hO2
              clear hO2
              have e14 : u 14 = _ := endO_get hE 14 (by decide) (by decide)
              simp only [List.drop_succ_cons, List.drop_zero, List.take_succ_cons, List.take_zero, fillL, Act.put, List.setIfInBounds_toArray, List.set_cons_zero, List.set_cons_succ, e1, e2, e3, e4, e6, hy7, e9, e10, e11, e12, hv2, e14]
              clear e1 e2 e3 e4 e6 hy7 e9 e10 e11 e12 hv2 e14 hE
              have HBw9 := Lib.hid (below_step (w := w8) (by first | assumption | go_grown) hb)
              have HBXw9 := Lib.hid hb
              have hzw9 := hb.size
              (try simp only [World.size_alloc, World.size_setCell] at hzw9)
              have hzw90 : w.heap.size < w9.heap.size := by omega
              have hzw91 : w.heap.size + 1 + 1 < w9.heap.size := by omega
              have hzw92 : w.heap.size + 1 + 1 + 1 < w9.heap.size := by omega
              have hzw93 : w3.heap.size < w9.heap.size := by omega
              obtain ⟨hcw9, hfw9⟩ := bcell hb
              clear hb hzw9
              have hs2 := owns_sh HO2.out
              obtain ⟨o7, c7, rfl, -, -, -⟩ := hs2.form
              clear hs2
              have hn7 := (owns_new HO2.out)
              have HA6 := Lib.hid (owns_sh HO2.out)
              have HM7 := Lib.hid hn7
              clear hn7
              have y0 : w9.cell? ⟨w3.heap.size, 0, none⟩ = some (.slice o1 ns c1) := (HBXw9.out.cell (p := ⟨_, _, none⟩) zo8).trans ((HBXw8.out.cell (p := ⟨_, _, none⟩) zow4).trans o0w4)
              have yf0 : w9.frozen? ⟨w3.heap.size, 0, none⟩ = false := (HBXw9.out.frozen (p := ⟨_, _, none⟩) zo8).trans ((HBXw8.out.frozen (p := ⟨_, _, none⟩) zow4).trans fo0w4)
              have yr0 : w9.cell? ⟨w.heap.size + 1 + 1 + 1, 0, none⟩ = some (.slice none 0 0) := (HBXw9.out.cell (p := ⟨_, _, none⟩) zr8).trans ((HBXw8.out.cell (p := ⟨_, _, none⟩) zrw4).trans r0w4)
              have yrf0 : w9.frozen? ⟨w.heap.size + 1 + 1 + 1, 0, none⟩ = false := (HBXw9.out.frozen (p := ⟨_, _, none⟩) zr8).trans ((HBXw8.out.frozen (p := ⟨_, _, none⟩) zrw4).trans fr0w4)
              have y1 : w9.cell? ⟨w3.heap.size, 1, none⟩ = some (.slice o2 nb c2) := (HBXw9.out.cell (p := ⟨_, _, none⟩) zo8).trans ((HBXw8.out.cell (p := ⟨_, _, none⟩) zow4).trans o1w4)
              have yf1 : w9.frozen? ⟨w3.heap.size, 1, none⟩ = false := (HBXw9.out.frozen (p := ⟨_, _, none⟩) zo8).trans ((HBXw8.out.frozen (p := ⟨_, _, none⟩) zow4).trans fo1w4)
              have yr1 : w9.cell? ⟨w.heap.size + 1 + 1 + 1, 1, none⟩ = some (.slice none 0 0) := (HBXw9.out.cell (p := ⟨_, _, none⟩) zr8).trans ((HBXw8.out.cell (p := ⟨_, _, none⟩) zrw4).trans r1w4)
              have yrf1 : w9.frozen? ⟨w.heap.size + 1 + 1 + 1, 1, none⟩ = false := (HBXw9.out.frozen (p := ⟨_, _, none⟩) zr8).trans ((HBXw8.out.frozen (p := ⟨_, _, none⟩) zrw4).trans fr1w4)
              clear hcw9 hfw9
              go_wp2
              all_goals (refine bodyPost_ret (v := .tuple #[.agg #[.slice o7 (ns + 1) c7, .slice o2 nb c2], .int .i64 0]) (by simp (maxDischargeDepth := 9) [results, Tryz.results10, go_sem, *]) rfl ?_)
              rw [HZ.out.1, HZ.out.2.1, HZ.out.2.2]
              have hz2' := hz2.out
              refine ⟨_, rfl, ⟨_, _, rfl, ?_, ?_⟩, ?_⟩
              · exact sh_set (sh_set (sh_set (HA6.out) HM7.out _ _ _ (by omega)) HM7.out _ _ _ (by omega)) HM7.out _ _ _ (by omega)
              · exact br_set (br_set (H2.out.below ((below_step HBL8.out HBXw9.out).setCell (Nat.le_refl _) _)) H4.out _ _ _ (by omega)) H4.out _ _ _ (by omega)
              · exact ((((below_step HBW8.out HBXw9.out)).setCell (by dsimp only; omega) _).setCell (by dsimp only; omega) _).setCell (by dsimp only; omega) _
            · have k3 : decide ((K : Int) < (ns : Int)) = false := decide_eq_false (by omega)
              go_wp2_with fail
              refine wp_region_relw 16 (by kernel_rfl) (by kernel_rfl) (by kernel_rfl) ?_
              simp only [List.take_succ_cons, List.take_zero, fillL, Act.put, List.setIfInBounds_toArray, List.set_cons_zero, List.set_cons_succ]
              iterate 16
                apply rel_is
                · intro u wx hb hd
                  have hz := hb.size
                  (try simp only [World.size_alloc, World.size_setCell] at hz)
                  have hz0 : w.heap.size < wx.heap.size := by omega
                  have hz1 : w.heap.size + 1 + 1 < wx.heap.size := by omega
                  have hz2 : w.heap.size + 1 + 1 + 1 < wx.heap.size := by omega
                  have hz3 : w3.heap.size < wx.heap.size := by omega
                  obtain ⟨hc, hf⟩ := bcell hb
                  have HBX := Lib.hid hb
                  clear hb hz
                  simp [depsS, Region.binds, updS, Stay.is, Stay.any] at hd
                  go_simp
                  first | exact ⟨Below.refl _ _, rfl⟩ | rfl
              intro u w8 hb hE
              have e0 : u 0 = _ := endS_get hE 0 (by decide)
              have e1 : u 1 = _ := endS_get hE 1 (by decide)
              have e2 : u 2 = _ := endS_get hE 2 (by decide)
              have e3 : u 3 = _ := endS_get hE 3 (by decide)
              have e4 : u 4 = _ := endS_get hE 4 (by decide)
              have e5 : u 5 = _ := endS_get hE 5 (by decide)
              have e6 : u 6 = _ := endS_get hE 6 (by decide)
              have e7 : u 7 = _ := endS_get hE 7 (by decide)
              have e8 : u 8 = _ := endS_get hE 8 (by decide)
              have e9 : u 9 = _ := endS_get hE 9 (by decide)
              have e10 : u 10 = _ := endS_get hE 10 (by decide)
              have e11 : u 11 = _ := endS_get hE 11 (by decide)
              have e12 : u 12 = _ := endS_get hE 12 (by decide)
              have e13 : u 13 = _ := endS_get hE 13 (by decide)
              have e14 : u 14 = _ := endS_get hE 14 (by decide)
              have e15 : u 15 = _ := endS_get hE 15 (by decide)
              simp only [List.drop_succ_cons, List.drop_zero, List.take_succ_cons, List.take_zero, fillL, Act.put, List.setIfInBounds_toArray, List.set_cons_zero, List.set_cons_succ, e0, e1, e2, e3, e4, e5, e6, e7, e8, e9, e10, e11, e12, e13, e14, e15]
              clear e0 e1 e2 e3 e4 e5 e6 e7 e8 e9 e10 e11 e12 e13 e14 e15 hE
              have HBw8 := Lib.hid (below_step (w := w4) (by first | assumption | go_grown) hb)
              have HBXw8 := Lib.hid hb
              have hzw8 := hb.size
              (try simp only [World.size_alloc, World.size_setCell] at hzw8)
              have hzw80 : w.heap.size < w8.heap.size := by omega
              have hzw81 : w.heap.size + 1 + 1 < w8.heap.size := by omega
              have hzw82 : w.heap.size + 1 + 1 + 1 < w8.heap.size := by omega
              have hzw83 : w3.heap.size < w8.heap.size := by omega
              obtain ⟨hcw8, hfw8⟩ := bcell hb
              clear hb hzw8
              have HBW8 : Hid (Below w.heap.size w w8) := below_step HBW.out HBXw8.out
              have HBL8 : Hid (Below w3.heap.size w3 w8) := below_step HBL.out HBXw8.out
              have zo8 : w3.heap.size < w8.heap.size := by omega
              have zr8 : w.heap.size + 1 + 1 + 1 < w8.heap.size := by omega
              go_wp2_with fail
              refine wp_region_own 15 [(0, 5), (5, 8), (8, 13)] (by kernel_rfl) (by kernel_rfl) (by kernel_rfl) (by kernel_rfl) (by kernel_rfl) ?_
              simp only [List.take_succ_cons, List.take_zero, fillL, Act.put, List.setIfInBounds_toArray, List.set_cons_zero, List.set_cons_succ]
              refine relo_new (OwnS.row w8.heap.size 31 6 0 []) ?_ ?_
              · intro u wx hb hd
                have hz := hb.size
                (try simp only [World.size_alloc, World.size_setCell] at hz)
                have hz0 : w.heap.size < wx.heap.size := by omega
                have hz1 : w.heap.size + 1 + 1 < wx.heap.size := by omega
                have hz2 : w.heap.size + 1 + 1 + 1 < wx.heap.size := by omega
                have hz3 : w3.heap.size < wx.heap.size := by omega
                obtain ⟨hc, hf⟩ := bcell hb
                have HBX := Lib.hid hb
                clear hb hz
                simp [depsO, Region.binds, updO, OwnS.is, OwnS.any, eaten, eats] at hd
                refine ⟨by simp [Region.wanted], ?_⟩
                go_simp
                exact ⟨(Below.refl _ _).alloc (Nat.le_refl _) _, ownsRow_built0 _ _ _ (by have := HBX.out.size; omega), fun b hb => by simp [OwnS.row, Value.ownBlock] at hb; omega⟩
              apply relo_is
              · intro u wx hb hd
                have hz := hb.size
                (try simp only [World.size_alloc, World.size_setCell] at hz)
                have hz0 : w.heap.size < wx.heap.size := by omega
                have hz1 : w.heap.size + 1 + 1 < wx.heap.size := by omega
                have hz2 : w.heap.size + 1 + 1 + 1 < wx.heap.size := by omega
                have hz3 : w3.heap.size < wx.heap.size := by omega
                obtain ⟨hc, hf⟩ := bcell hb
                have HBX := Lib.hid hb
                clear hb hz
                simp [depsO, Region.binds, updO, OwnS.is, OwnS.any, eaten, eats] at hd
                go_simp
                first | exact ⟨Below.refl _ _, rfl⟩ | rfl
              apply relo_is
              · intro u wx hb hd
                have hz := hb.size
                (try simp only [World.size_alloc, World.size_setCell] at hz)
                have hz0 : w.heap.size < wx.heap.size := by omega
                have hz1 : w.heap.size + 1 + 1 < wx.heap.size := by omega
                have hz2 : w.heap.size + 1 + 1 + 1 < wx.heap.size := by omega
                have hz3 : w3.heap.size < wx.heap.size := by omega
                obtain ⟨hc, hf⟩ := bcell hb
                have HBX := Lib.hid hb
                clear hb hz
                simp [depsO, Region.binds, updO, OwnS.is, OwnS.any, eaten, eats] at hd
                go_simp
                first | exact ⟨Below.refl _ _, rfl⟩ | rfl
              apply relo_is
              · intro u wx hb hd
                have hz := hb.size
                (try simp only [World.size_alloc, World.size_setCell] at hz)
                have hz0 : w.heap.size < wx.heap.size := by omega
                have hz1 : w.heap.size + 1 + 1 < wx.heap.size := by omega
                have hz2 : w.heap.size + 1 + 1 + 1 < wx.heap.size := by omega
                have hz3 : w3.heap.size < wx.heap.size := by omega
                obtain ⟨hc, hf⟩ := bcell hb
                have HBX := Lib.hid hb
                clear hb hz
                simp [depsO, Region.binds, updO, OwnS.is, OwnS.any, eaten, eats] at hd
                go_simp
                first | exact ⟨Below.refl _ _, rfl⟩ | rfl
              apply relo_is
              · intro u wx hb hd
                have hz := hb.size
                (try simp only [World.size_alloc, World.size_setCell] at hz)
                have hz0 : w.heap.size < wx.heap.size := by omega
                have hz1 : w.heap.size + 1 + 1 < wx.heap.size := by omega
                have hz2 : w.heap.size + 1 + 1 + 1 < wx.heap.size := by omega
                have hz3 : w3.heap.size < wx.heap.size := by omega
                obtain ⟨hc, hf⟩ := bcell hb
                have HBX := Lib.hid hb
                clear hb hz
                simp [depsO, Region.binds, updO, OwnS.is, OwnS.any, eaten, eats] at hd
                have hsl := HS1.out wx
                go_simp
                first | exact ⟨Below.refl _ _, rfl⟩ | rfl
              refine relo_append 0 (by decide) (by decide) (.tmp 49) (.tmp 53) 22 rfl rfl 31 iSheet _ 6 72 0 K [] (flatL Sh.enc ((rowL es ns).take K)) Tryz.underlying22 hiSheet hz0Sheet hz1Sheet hz2Sheet rfl (by decide) (fun v w h => h) (fun v b h => h) (by decide) (by have := HKN.out; unfold maxLen; omega) (by have := HKN.out; omega) (by rw [flatL_len Sh.enc_len, List.length_take, rowL_len, Nat.min_eq_left HKN.out]) (flatL_one Sh.enc_one _) ?_ ?_
              · intro u wx hb hd
                have hz := hb.size
                (try simp only [World.size_alloc, World.size_setCell] at hz)
                have hz0 : w.heap.size < wx.heap.size := by omega
                have hz1 : w.heap.size + 1 + 1 < wx.heap.size := by omega
                have hz2 : w.heap.size + 1 + 1 + 1 < wx.heap.size := by omega
                have hz3 : w3.heap.size < wx.heap.size := by omega
                obtain ⟨hc, hf⟩ := bcell hb
                have HBX := Lib.hid hb
                clear hb hz
                simp [depsO, Region.binds, updO, OwnS.is, OwnS.any, eaten, eats] at hd
                go_simp
                exact ⟨HH1.out.1, fun ad had j u hj => HH1.out.2 _ (below_step HBW8.out HBX.out) ad had j u hj⟩
              apply relo_is
              · intro u wx hb hd
                have hz := hb.size
                (try simp only [World.size_alloc, World.size_setCell] at hz)
                have hz0 : w.heap.size < wx.heap.size := by omega
                have hz1 : w.heap.size + 1 + 1 < wx.heap.size := by omega
                have hz2 : w.heap.size + 1 + 1 + 1 < wx.heap.size := by omega
                have hz3 : w3.heap.size < wx.heap.size := by omega
                obtain ⟨hc, hf⟩ := bcell hb
                have HBX := Lib.hid hb
                clear hb hz
                simp [depsO, Region.binds, updO, OwnS.is, OwnS.any, eaten, eats] at hd
                go_simp
                first | exact ⟨Below.refl _ _, rfl⟩ | rfl
              refine relo_new (OwnS.built 1 #[.string id', .string grade', .int .i64 thick', .int .i64 len', .int .i64 wid', .string heat'] 31) ?_ ?_
              · intro u wx hb hd
                have hz := hb.size
                (try simp only [World.size_alloc, World.size_setCell] at hz)
                have hz0 : w.heap.size < wx.heap.size := by omega
                have hz1 : w.heap.size + 1 + 1 < wx.heap.size := by omega
                have hz2 : w.heap.size + 1 + 1 + 1 < wx.heap.size := by omega
                have hz3 : w3.heap.size < wx.heap.size := by omega
                obtain ⟨hc, hf⟩ := bcell hb
                have HBX := Lib.hid hb
                clear hb hz
                simp [depsO, Region.binds, updO, OwnS.is, OwnS.any, eaten, eats] at hd
                refine ⟨by simp [Region.wanted], ?_⟩
                go_simp
                exact ⟨(Below.refl _ _).alloc (Nat.le_refl _) _, ⟨_, rfl, (MapKept.heap_alloc wx _).1⟩, fun b hb => by simp [OwnS.built, Value.ownBlock] at hb; omega⟩
              refine relo_append 5 (by decide) (by decide) (.tmp 54) (.tmp 56) 22 rfl rfl 31 iSheet _ 6 72 (0 + K) 1 _ [.string id', .string grade', .int .i64 thick', .int .i64 len', .int .i64 wid', .string heat'] Tryz.underlying22 hiSheet hz0Sheet hz1Sheet hz2Sheet rfl (by decide) (fun v w h => h) (fun v b h => h) (by decide) (by have := HKN.out; unfold maxLen; omega) (by have := HKN.out; omega) rfl (by intro u hu; simp at hu; rcases hu with rfl | rfl | rfl | rfl | rfl | rfl <;> rfl) ?_ ?_
              · intro u wx hb hd
                have hz := hb.size
                (try simp only [World.size_alloc, World.size_setCell] at hz)
                have hz0 : w.heap.size < wx.heap.size := by omega
                have hz1 : w.heap.size + 1 + 1 < wx.heap.size := by omega
                have hz2 : w.heap.size + 1 + 1 + 1 < wx.heap.size := by omega
                have hz3 : w3.heap.size < wx.heap.size := by omega
                obtain ⟨hc, hf⟩ := bcell hb
                have HBX := Lib.hid hb
                clear hb hz
                simp [depsO, Region.binds, updO, OwnS.is, OwnS.any, eaten, eats] at hd
                obtain ⟨g, hg1, hg2⟩ : ∃ g : Nat, u 7 = .slice (some ⟨g, 0, none⟩) 1 1 ∧ wx.heap[g]? = some (.cells #[.string id', .string grade', .int .i64 thick', .int .i64 len', .int .i64 wid', .string heat'] 31) := by
                  first | exact hd | exact hd.1 | exact hd.2 | exact hd.2.1 | exact hd.2.2
                have HG2 := Lib.hid hg2
                clear hg2
                go_simp
                first | (exact fun j u hj => by have h9 := built_at HG2.out (ad := ⟨g, 0, none⟩) rfl hj; rwa [Addr.add_lit, Nat.zero_add] at h9) | exact ⟨_, _, hg1, by simp, fun ad had j u hj => built_at HG2.out had hj⟩
              apply relo_is
              · intro u wx hb hd
                have hz := hb.size
                (try simp only [World.size_alloc, World.size_setCell] at hz)
                have hz0 : w.heap.size < wx.heap.size := by omega
                have hz1 : w.heap.size + 1 + 1 < wx.heap.size := by omega
                have hz2 : w.heap.size + 1 + 1 + 1 < wx.heap.size := by omega
                have hz3 : w3.heap.size < wx.heap.size := by omega
                obtain ⟨hc, hf⟩ := bcell hb
                have HBX := Lib.hid hb
                clear hb hz
                simp [depsO, Region.binds, updO, OwnS.is, OwnS.any, eaten, eats] at hd
                go_simp
                first | exact ⟨Below.refl _ _, rfl⟩ | rfl
              apply relo_is
              · intro u wx hb hd
                have hz := hb.size
                (try simp only [World.size_alloc, World.size_setCell] at hz)
                have hz0 : w.heap.size < wx.heap.size := by omega
                have hz1 : w.heap.size + 1 + 1 < wx.heap.size := by omega
                have hz2 : w.heap.size + 1 + 1 + 1 < wx.heap.size := by omega
                have hz3 : w3.heap.size < wx.heap.size := by omega
                obtain ⟨hc, hf⟩ := bcell hb
                have HBX := Lib.hid hb
                clear hb hz
                simp [depsO, Region.binds, updO, OwnS.is, OwnS.any, eaten, eats] at hd
                go_simp
                first | exact ⟨Below.refl _ _, rfl⟩ | rfl
              apply relo_is
              · intro u wx hb hd
                have hz := hb.size
                (try simp only [World.size_alloc, World.size_setCell] at hz)
                have hz0 : w.heap.size < wx.heap.size := by omega
                have hz1 : w.heap.size + 1 + 1 < wx.heap.size := by omega
                have hz2 : w.heap.size + 1 + 1 + 1 < wx.heap.size := by omega
                have hz3 : w3.heap.size < wx.heap.size := by omega
                obtain ⟨hc, hf⟩ := bcell hb
                have HBX := Lib.hid hb
                clear hb hz
                simp [depsO, Region.binds, updO, OwnS.is, OwnS.any, eaten, eats] at hd
                go_simp
                first | exact ⟨Below.refl _ _, rfl⟩ | rfl
              apply relo_is
              · intro u wx hb hd
                have hz := hb.size
                (try simp only [World.size_alloc, World.size_setCell] at hz)
                have hz0 : w.heap.size < wx.heap.size := by omega
                have hz1 : w.heap.size + 1 + 1 < wx.heap.size := by omega
                have hz2 : w.heap.size + 1 + 1 + 1 < wx.heap.size := by omega
                have hz3 : w3.heap.size < wx.heap.size := by omega
                obtain ⟨hc, hf⟩ := bcell hb
                have HBX := Lib.hid hb
                clear hb hz
                simp [depsO, Region.binds, updO, OwnS.is, OwnS.any, eaten, eats] at hd
                have hsl := HS2.out wx
                go_simp
                first | exact ⟨Below.refl _ _, rfl⟩ | rfl
              refine relo_append 8 (by decide) (by decide) (.tmp 57) (.tmp 61) 22 rfl rfl 31 iSheet _ 6 72 (0 + K + 1) (ns - K) _ (flatL Sh.enc ((rowL es ns).drop K)) Tryz.underlying22 hiSheet hz0Sheet hz1Sheet hz2Sheet rfl (by decide) (fun v w h => h) (fun v b h => h) (by decide) (by have := HKN.out; unfold maxLen; omega) (by have := HKN.out; omega) (by rw [flatL_len Sh.enc_len, List.length_drop, rowL_len]) (flatL_one Sh.enc_one _) ?_ ?_
              · intro u wx hb hd
                have hz := hb.size
                (try simp only [World.size_alloc, World.size_setCell] at hz)
                have hz0 : w.heap.size < wx.heap.size := by omega
                have hz1 : w.heap.size + 1 + 1 < wx.heap.size := by omega
                have hz2 : w.heap.size + 1 + 1 + 1 < wx.heap.size := by omega
                have hz3 : w3.heap.size < wx.heap.size := by omega
                obtain ⟨hc, hf⟩ := bcell hb
                have HBX := Lib.hid hb
                clear hb hz
                simp [depsO, Region.binds, updO, OwnS.is, OwnS.any, eaten, eats] at hd
                go_simp
                exact ⟨HH2.out.1, fun ad had j u hj => HH2.out.2 _ (below_step HBW8.out HBX.out) ad had j u hj⟩
              apply relo_is
              · intro u wx hb hd
                have hz := hb.size
                (try simp only [World.size_alloc, World.size_setCell] at hz)
                have hz0 : w.heap.size < wx.heap.size := by omega
                have hz1 : w.heap.size + 1 + 1 < wx.heap.size := by omega
                have hz2 : w.heap.size + 1 + 1 + 1 < wx.heap.size := by omega
                have hz3 : w3.heap.size < wx.heap.size := by omega
                obtain ⟨hc, hf⟩ := bcell hb
                have HBX := Lib.hid hb
                clear hb hz
                simp [depsO, Region.binds, updO, OwnS.is, OwnS.any, eaten, eats] at hd
                go_simp
                first | exact ⟨Below.refl _ _, rfl⟩ | rfl
              intro u w9 hb hE
              have e1 : u 1 = _ := endO_get hE 1 (by decide) (by decide)
              have e2 : u 2 = _ := endO_get hE 2 (by decide) (by decide)
              have e3 : u 3 = _ := endO_get hE 3 (by decide) (by decide)
              have e4 : u 4 = _ := endO_get hE 4 (by decide) (by decide)
              have e6 : u 6 = _ := endO_get hE 6 (by decide) (by decide)
              obtain ⟨y7, hy7⟩ : ∃ y, u 7 = y := ⟨_, rfl⟩
              have e9 : u 9 = _ := endO_get hE 9 (by decide) (by decide)
              have e10 : u 10 = _ := endO_get hE 10 (by decide) (by decide)
              have e11 : u 11 = _ := endO_get hE 11 (by decide) (by decide)
              have e12 : u 12 = _ := endO_get hE 12 (by decide) (by decide)
              have hO2 : w9.ownsRow _ _ _ (u 13) _ _ := endO_get hE 13 (by decide) (by decide)
              obtain ⟨v2, hv2⟩ : ∃ v2, u 13 = v2 := ⟨_, rfl⟩
              rw [hv2, show 0 + K + 1 + (ns - K) = ns + 1 by have := HKN.out; omega, show ([] : List Value) ++ flatL Sh.enc ((rowL es ns).take K) ++ [.string id', .string grade', .int .i64 thick', .int .i64 len', .int .i64 wid', .string heat'] ++ flatL Sh.enc ((rowL es ns).drop K) = flatL Sh.enc (rowL (insF es K (⟨id', grade', thick', len', wid', heat'⟩ : Sh)) (ns + 1)) by rw [rowL_ins es (⟨id', grade', thick', len', wid', heat'⟩ : Sh) HKN.out, flatL_append, flatL_append, List.nil_append, List.append_assoc]; rfl] at hO2
              have HO2 := Lib.hid hO2
              clear hO2
              have e14 : u 14 = _ := endO_get hE 14 (by decide) (by decide)
              simp only [List.drop_succ_cons, List.drop_zero, List.take_succ_cons, List.take_zero, fillL, Act.put, List.setIfInBounds_toArray, List.set_cons_zero, List.set_cons_succ, e1, e2, e3, e4, e6, hy7, e9, e10, e11, e12, hv2, e14]
              clear e1 e2 e3 e4 e6 hy7 e9 e10 e11 e12 hv2 e14 hE
              have HBw9 := Lib.hid (below_step (w := w8) (by first | assumption | go_grown) hb)
              have HBXw9 := Lib.hid hb
              have hzw9 := hb.size
              (try simp only [World.size_alloc, World.size_setCell] at hzw9)
              have hzw90 : w.heap.size < w9.heap.size := by omega
              have hzw91 : w.heap.size + 1 + 1 < w9.heap.size := by omega
              have hzw92 : w.heap.size + 1 + 1 + 1 < w9.heap.size := by omega
              have hzw93 : w3.heap.size < w9.heap.size := by omega
              obtain ⟨hcw9, hfw9⟩ := bcell hb
              clear hb hzw9
              have hs2 := owns_sh HO2.out
              obtain ⟨o7, c7, rfl, -, -, -⟩ := hs2.form
              clear hs2
              have hn7 := (owns_new HO2.out)
              have HA6 := Lib.hid (owns_sh HO2.out)
              have HM7 := Lib.hid hn7
              clear hn7
              have y0 : w9.cell? ⟨w3.heap.size, 0, none⟩ = some (.slice o1 ns c1) := (HBXw9.out.cell (p := ⟨_, _, none⟩) zo8).trans ((HBXw8.out.cell (p := ⟨_, _, none⟩) zow4).trans o0w4)
              have yf0 : w9.frozen? ⟨w3.heap.size, 0, none⟩ = false := (HBXw9.out.frozen (p := ⟨_, _, none⟩) zo8).trans ((HBXw8.out.frozen (p := ⟨_, _, none⟩) zow4).trans fo0w4)
              have yr0 : w9.cell? ⟨w.heap.size + 1 + 1 + 1, 0, none⟩ = some (.slice none 0 0) := (HBXw9.out.cell (p := ⟨_, _, none⟩) zr8).trans ((HBXw8.out.cell (p := ⟨_, _, none⟩) zrw4).trans r0w4)
              have yrf0 : w9.frozen? ⟨w.heap.size + 1 + 1 + 1, 0, none⟩ = false := (HBXw9.out.frozen (p := ⟨_, _, none⟩) zr8).trans ((HBXw8.out.frozen (p := ⟨_, _, none⟩) zrw4).trans fr0w4)
              have y1 : w9.cell? ⟨w3.heap.size, 1, none⟩ = some (.slice o2 nb c2) := (HBXw9.out.cell (p := ⟨_, _, none⟩) zo8).trans ((HBXw8.out.cell (p := ⟨_, _, none⟩) zow4).trans o1w4)
              have yf1 : w9.frozen? ⟨w3.heap.size, 1, none⟩ = false := (HBXw9.out.frozen (p := ⟨_, _, none⟩) zo8).trans ((HBXw8.out.frozen (p := ⟨_, _, none⟩) zow4).trans fo1w4)
              have yr1 : w9.cell? ⟨w.heap.size + 1 + 1 + 1, 1, none⟩ = some (.slice none 0 0) := (HBXw9.out.cell (p := ⟨_, _, none⟩) zr8).trans ((HBXw8.out.cell (p := ⟨_, _, none⟩) zrw4).trans r1w4)
              have yrf1 : w9.frozen? ⟨w.heap.size + 1 + 1 + 1, 1, none⟩ = false := (HBXw9.out.frozen (p := ⟨_, _, none⟩) zr8).trans ((HBXw8.out.frozen (p := ⟨_, _, none⟩) zrw4).trans fr1w4)
              clear hcw9 hfw9
              go_wp2
              all_goals (refine bodyPost_ret (v := .tuple #[.agg #[.slice o7 (ns + 1) c7, .slice o2 nb c2], .int .i64 0]) (by simp (maxDischargeDepth := 9) [results, Tryz.results10, go_sem, *]) rfl ?_)
              rw [HZ.out.1, HZ.out.2.1, HZ.out.2.2]
              have hz2' := hz2.out
              refine ⟨_, rfl, ⟨_, _, rfl, ?_, ?_⟩, ?_⟩
              · exact sh_set (sh_set (sh_set (HA6.out) HM7.out _ _ _ (by omega)) HM7.out _ _ _ (by omega)) HM7.out _ _ _ (by omega)
              · exact br_set (br_set (H2.out.below ((below_step HBL8.out HBXw9.out).setCell (Nat.le_refl _) _)) H4.out _ _ _ (by omega)) H4.out _ _ _ (by omega)
              · exact ((((below_step HBW8.out HBXw9.out)).setCell (by dsimp only; omega) _).setCell (by dsimp only; omega) _).setCell (by dsimp only; omega) _
  · have k0 : (EE != 0) = true := by simpa using hE0
    have HZ : Hid (RR = EE ∧ NS = 0 ∧ NB = 0) := by
      have h1 : RR = EE := by rw [← HRR.out]; exact if_pos hE0
      exact ⟨h1, by rw [← HNS.out, if_neg (by rw [h1]; exact hE0)], by rw [← HNB.out, if_neg (by rw [h1]; exact hE0)]⟩
    clear hE0
    go_wp2
    all_goals (refine bodyPost_ret (v := .tuple #[.agg #[.slice none 0 0, .slice none 0 0], .int .i64 EE]) (by simp (maxDischargeDepth := 9) [results, Tryz.results10, go_sem, *]) rfl ?_)
    rw [HZ.out.1, HZ.out.2.1, HZ.out.2.2]
    exact ⟨_, rfl, St_zero _ _ _, by go_grown⟩

set_option maxHeartbeats 16000000 in
theorem RAddBar_any (v : Value) (ns : Nat) (es : Nat → Sh) (nb : Nat) (eb : Nat → Br) (vm : Value) (m : Mat) (gv : Nat → Value) (x : Br) (w : World) (h : StAt w v ns es nb eb) (hm : MatAt w vm m gv) (n1 : ns ≤ 1000000) (n2 : nb ≤ 1000000) (ha : AscB Br.id eb nb) (hi : x.id.size ≤ 2147483648) (hh : x.heat.size ≤ 2147483648) (hml : MaxLenIs w) :
    Calls Tryz.prog 12 #[v, vm, x.val] w fun e w' => ∃ v', e = .returned (.tuple #[v', .int .i64 (addS (barE m x) (addE Br.id eb nb x))]) ∧ StAt w' v' (if addS (barE m x) (addE Br.id eb nb x) = 0 then ns else 0) es (if addS (barE m x) (addE Br.id eb nb x) = 0 then nb + 1 else 0) (insF eb (placeI Br.id eb nb x.id) x) ∧ Below w.heap.size w w' := by
  have HM := Lib.hid hm
  have HML := Lib.hid hml
  have HASC := Lib.hid ha
  have HST := Lib.hid h
  obtain ⟨va, vb, rfl, hSh, hBr⟩ := h
  have HSH := Lib.hid hSh
  have HBR := Lib.hid hBr
  obtain ⟨oa, ca, rfl, hna, hca, hela⟩ := hSh.form
  obtain ⟨ob, cb, rfl, hnb, hcb, helb⟩ := hBr.form
  obtain ⟨vg, vs, rfl, hG, hS, -⟩ := hm
  obtain ⟨om, cm, rfl, -, -⟩ := hG.form
  obtain ⟨ot, ct, rfl, -, -⟩ := hS.form
  obtain ⟨iSheet, hiSheet, hz0Sheet, hz1Sheet, hz2Sheet⟩ := info_parts info_Sheet
  obtain ⟨iBar, hiBar, hz0Bar, hz1Bar, hz2Bar⟩ := info_parts info_Bar
  have HI := Lib.hid hi
  have HH := Lib.hid hh
  have HEL := Lib.hid helb
  obtain ⟨id', sect', grade', len', heat'⟩ := x
  have hkind : ∀ W, Below w.heap.size w W → Calls Tryz.prog 38 #[.agg #[.slice om m.ng cm, .slice ot m.ns ct], .agg #[.string id', .string sect', .string grade', .int .i64 len', .string heat']] W fun e w' => e = .returned (.int .i64 (barE m (⟨id', sect', grade', len', heat'⟩ : Br))) ∧ Below W.heap.size W w' := fun W hB => rbar_any ⟨id', sect', grade', len', heat'⟩ _ m gv W (HM.out.below hB) HI.out HH.out (HML.out.below hB)
  obtain ⟨EE, hEE⟩ : ∃ EE, barE m (⟨id', sect', grade', len', heat'⟩ : Br) = EE := ⟨_, rfl⟩
  obtain ⟨AE, hAE⟩ : ∃ AE, addE Br.id eb nb (⟨id', sect', grade', len', heat'⟩ : Br) = AE := ⟨_, rfl⟩
  obtain ⟨AT, hAT⟩ : ∃ AT, atE Br.id eb nb id' = AT := ⟨_, rfl⟩
  have HAT := Lib.hid hAT
  have HAE := Lib.hid hAE
  rw [hEE] at hkind
  have HK := Lib.hid hkind
  rw [hEE, hAE]
  obtain ⟨RR, hRR⟩ : ∃ RR, addS EE AE = RR := ⟨_, rfl⟩
  have HRR := Lib.hid hRR
  obtain ⟨NS, hNS⟩ : ∃ NS, (if RR = 0 then ns else 0) = NS := ⟨_, rfl⟩
  obtain ⟨NB, hNB⟩ : ∃ NB, (if RR = 0 then nb + 1 else 0) = NB := ⟨_, rfl⟩
  have HNS := Lib.hid hNS
  have HNB := Lib.hid hNB
  rw [hRR, hNS, hNB]
  obtain ⟨K, hK⟩ : ∃ K, placeI Br.id eb nb id' = K := ⟨_, rfl⟩
  show Calls Tryz.prog 12 #[.agg #[.slice oa ns ca, .slice ob nb cb], .agg #[.slice om m.ng cm, .slice ot m.ns ct], .agg #[.string id', .string sect', .string grade', .int .i64 len', .string heat']] w fun e w' => ∃ v', e = .returned (.tuple #[v', .int .i64 RR]) ∧ StAt w' v' NS es NB (insF eb (placeI Br.id eb nb id') (⟨id', sect', grade', len', heat'⟩ : Br)) ∧ Below w.heap.size w w'
  have HKN : Hid (K ≤ nb) := by show _ ≤ _; rw [← hK]; exact placeI_le
  have HLT : Hid (∀ i, i < K → ltB (eb i).id id' = true) := by show ∀ i, _; rw [← hK]; exact fun i hi => placeI_lt (f := Br.id) hi
  have HGE : Hid (K < nb → ltB (eb K).id id' = false) := by show _ → _; rw [← hK]; exact fun h => placeI_not (f := Br.id) h
  rw [hK]
  clear hSh hBr hG hS hml ha hi hh hela helb hkind hEE hAE hRR hNS hNB hAT hK
  go_enter Tryz.func12, Tryz.ntmps12
  go_wp2_with fail
  (go_at_call 38; refine (HK.out _ (by go_grown)).mono ?_; rintro e_ w1 ⟨rfl, hb⟩)
  have hsw1 := hb.size
  (try simp only [World.size_alloc, World.size_setCell] at hsw1)
  have zzw1 : w.heap.size < w1.heap.size := by omega
  have hPw1 : Below w.heap.size w w1 := below_step (w := w) (by first | exact Below.refl _ _ | go_grown) hb
  have zsw1 : w.heap.size < w1.heap.size := by omega
  have s0w1 : w1.cell? ⟨w.heap.size, 0, none⟩ = some (.slice oa ns ca) := (hb.cell (p := ⟨_, _, none⟩) (by simp <;> omega)).trans (by simp [go_sem])
  have s1w1 : w1.cell? ⟨w.heap.size, 1, none⟩ = some (.slice ob nb cb) := (hb.cell (p := ⟨_, _, none⟩) (by simp <;> omega)).trans (by simp [go_sem])
  have zxw1 : w.heap.size + 1 + 1 < w1.heap.size := by omega
  have x0w1 : w1.cell? ⟨w.heap.size + 1 + 1, 0, none⟩ = some (.string id') := (hb.cell (p := ⟨_, _, none⟩) (by simp <;> omega)).trans (by simp [go_sem])
  have x1w1 : w1.cell? ⟨w.heap.size + 1 + 1, 1, none⟩ = some (.string sect') := (hb.cell (p := ⟨_, _, none⟩) (by simp <;> omega)).trans (by simp [go_sem])
  have x2w1 : w1.cell? ⟨w.heap.size + 1 + 1, 2, none⟩ = some (.string grade') := (hb.cell (p := ⟨_, _, none⟩) (by simp <;> omega)).trans (by simp [go_sem])
  have x3w1 : w1.cell? ⟨w.heap.size + 1 + 1, 3, none⟩ = some (.int .i64 len') := (hb.cell (p := ⟨_, _, none⟩) (by simp <;> omega)).trans (by simp [go_sem])
  have x4w1 : w1.cell? ⟨w.heap.size + 1 + 1, 4, none⟩ = some (.string heat') := (hb.cell (p := ⟨_, _, none⟩) (by simp <;> omega)).trans (by simp [go_sem])
  have zrw1 : w.heap.size + 1 + 1 + 1 < w1.heap.size := by omega
  have r0w1 : w1.cell? ⟨w.heap.size + 1 + 1 + 1, 0, none⟩ = some (.slice none 0 0) := (hb.cell (p := ⟨_, _, none⟩) (by simp <;> omega)).trans (by simp [go_sem])
  have r1w1 : w1.cell? ⟨w.heap.size + 1 + 1 + 1, 1, none⟩ = some (.slice none 0 0) := (hb.cell (p := ⟨_, _, none⟩) (by simp <;> omega)).trans (by simp [go_sem])
  have fr0w1 : w1.frozen? ⟨w.heap.size + 1 + 1 + 1, 0, none⟩ = false := (hb.frozen (p := ⟨_, _, none⟩) (by simp <;> omega)).trans (by simp [go_sem])
  have fr1w1 : w1.frozen? ⟨w.heap.size + 1 + 1 + 1, 1, none⟩ = false := (hb.frozen (p := ⟨_, _, none⟩) (by simp <;> omega)).trans (by simp [go_sem])
  have hBw1 : Below w.heap.size w w1 := below_step (w := w) (by first | assumption | go_grown) hb
  clear hb hsw1 hPw1
  by_cases hE0 : EE = 0
  · subst hE0
    go_wp2_with fail
    (go_at_call 39; refine (rat_Bar _ ns es nb eb id' _ (HST.out.below (by first | assumption | go_grown)) HASC.out).mono ?_; rintro e_ w2 ⟨rfl, hb⟩)
    rw [HAT.out]
    have hsw2 := hb.size
    (try simp only [World.size_alloc, World.size_setCell] at hsw2)
    have zzw2 : w.heap.size < w2.heap.size := by omega
    have hPw2 : Below w1.heap.size w1 w2 := below_step (w := w1) (by first | exact Below.refl _ _ | go_grown) hb
    have zsw2 : w.heap.size < w2.heap.size := by omega
    have s0w2 : w2.cell? ⟨w.heap.size, 0, none⟩ = some (.slice oa ns ca) := (hPw2.cell (p := ⟨_, _, none⟩) zsw1).trans s0w1
    have s1w2 : w2.cell? ⟨w.heap.size, 1, none⟩ = some (.slice ob nb cb) := (hPw2.cell (p := ⟨_, _, none⟩) zsw1).trans s1w1
    have zxw2 : w.heap.size + 1 + 1 < w2.heap.size := by omega
    have x0w2 : w2.cell? ⟨w.heap.size + 1 + 1, 0, none⟩ = some (.string id') := (hPw2.cell (p := ⟨_, _, none⟩) zxw1).trans x0w1
    have x1w2 : w2.cell? ⟨w.heap.size + 1 + 1, 1, none⟩ = some (.string sect') := (hPw2.cell (p := ⟨_, _, none⟩) zxw1).trans x1w1
    have x2w2 : w2.cell? ⟨w.heap.size + 1 + 1, 2, none⟩ = some (.string grade') := (hPw2.cell (p := ⟨_, _, none⟩) zxw1).trans x2w1
    have x3w2 : w2.cell? ⟨w.heap.size + 1 + 1, 3, none⟩ = some (.int .i64 len') := (hPw2.cell (p := ⟨_, _, none⟩) zxw1).trans x3w1
    have x4w2 : w2.cell? ⟨w.heap.size + 1 + 1, 4, none⟩ = some (.string heat') := (hPw2.cell (p := ⟨_, _, none⟩) zxw1).trans x4w1
    have zrw2 : w.heap.size + 1 + 1 + 1 < w2.heap.size := by omega
    have r0w2 : w2.cell? ⟨w.heap.size + 1 + 1 + 1, 0, none⟩ = some (.slice none 0 0) := (hPw2.cell (p := ⟨_, _, none⟩) zrw1).trans r0w1
    have r1w2 : w2.cell? ⟨w.heap.size + 1 + 1 + 1, 1, none⟩ = some (.slice none 0 0) := (hPw2.cell (p := ⟨_, _, none⟩) zrw1).trans r1w1
    have fr0w2 : w2.frozen? ⟨w.heap.size + 1 + 1 + 1, 0, none⟩ = false := (hPw2.frozen (p := ⟨_, _, none⟩) zrw1).trans fr0w1
    have fr1w2 : w2.frozen? ⟨w.heap.size + 1 + 1 + 1, 1, none⟩ = false := (hPw2.frozen (p := ⟨_, _, none⟩) zrw1).trans fr1w1
    have hBw2 : Below w.heap.size w w2 := below_step (w := w) (by first | assumption | go_grown) hb
    clear hb hsw2 hPw2
    clear zsw1 zxw1 zrw1 s0w1 s1w1 x0w1 x1w1 x2w1 x3w1 x4w1 r0w1 r1w1 fr0w1 fr1w1
    by_cases hfd : foundB Br.id eb nb id' = true
    · have HZ : Hid (RR = 7 ∧ NS = 0 ∧ NB = 0) := by
        have h1 : RR = 7 := by rw [← HRR.out, ← HAE.out]; show addS 0 (addE Br.id eb nb (⟨id', sect', grade', len', heat'⟩ : Br)) = 7; unfold addS addE; simp only [ne_eq, not_true_eq_false, if_false]; rw [if_pos hfd]
        exact ⟨h1, by rw [← HNS.out, if_neg (by rw [h1]; decide)], by rw [← HNB.out, if_neg (by rw [h1]; decide)]⟩
      have k1 : decide ((0 : Int) ≤ AT) = true := decide_eq_true (by have h2 := HAT.out; unfold atE at h2; rw [if_pos hfd] at h2; omega)
      go_wp2
      all_goals (refine bodyPost_ret (v := .tuple #[.agg #[.slice none 0 0, .slice none 0 0], .int .i64 7]) (by simp (maxDischargeDepth := 9) [results, Tryz.results12, go_sem, *]) rfl ?_)
      rw [HZ.out.1, HZ.out.2.1, HZ.out.2.2]
      exact ⟨_, rfl, St_zero _ _ _, by go_grown⟩
    · have k1 : decide ((0 : Int) ≤ AT) = false := decide_eq_false (by have h2 := HAT.out; unfold atE at h2; rw [if_neg hfd] at h2; omega)
      by_cases hful : 128 ≤ nb
      · have HZ : Hid (RR = 12 ∧ NS = 0 ∧ NB = 0) := by
          have h1 : RR = 12 := by rw [← HRR.out, ← HAE.out]; show addS 0 (addE Br.id eb nb (⟨id', sect', grade', len', heat'⟩ : Br)) = 12; unfold addS addE; simp only [ne_eq, not_true_eq_false, if_false]; rw [if_neg hfd, if_pos hful]
          exact ⟨h1, by rw [← HNS.out, if_neg (by rw [h1]; decide)], by rw [← HNB.out, if_neg (by rw [h1]; decide)]⟩
        have k2 : decide ((128 : Int) ≤ (nb : Int)) = true := decide_eq_true (by omega)
        go_wp2
        all_goals (refine bodyPost_ret (v := .tuple #[.agg #[.slice none 0 0, .slice none 0 0], .int .i64 12]) (by simp (maxDischargeDepth := 9) [results, Tryz.results12, go_sem, *]) rfl ?_)
        rw [HZ.out.1, HZ.out.2.1, HZ.out.2.2]
        exact ⟨_, rfl, St_zero _ _ _, by go_grown⟩
      · have HZ : Hid (RR = 0 ∧ NS = ns ∧ NB = nb + 1) := by
          have h1 : RR = 0 := by rw [← HRR.out, ← HAE.out]; show addS 0 (addE Br.id eb nb (⟨id', sect', grade', len', heat'⟩ : Br)) = 0; unfold addS addE; simp only [ne_eq, not_true_eq_false, if_false]; rw [if_neg hfd, if_neg hful]
          exact ⟨h1, by rw [← HNS.out, if_pos h1], by rw [← HNB.out, if_pos h1]⟩
        have k2 : decide ((128 : Int) ≤ (nb : Int)) = false := decide_eq_false (by omega)
        go_wp2_with fail
        (go_at_call 34; refine (rcopied_any _ ns es nb eb _ (HST.out.below (by first | assumption | go_grown)) n1 n2).mono ?_; rintro e_ w3 ⟨va', vb', rfl, hx1, hx2, hx3, hx4, hb⟩)
        have hsw3 := hb.size
        (try simp only [World.size_alloc, World.size_setCell] at hsw3)
        have zzw3 : w.heap.size < w3.heap.size := by omega
        have hPw3 : Below w2.heap.size w2 w3 := below_step (w := w2) (by first | exact Below.refl _ _ | go_grown) hb
        have zsw3 : w.heap.size < w3.heap.size := by omega
        have s0w3 : w3.cell? ⟨w.heap.size, 0, none⟩ = some (.slice oa ns ca) := (hPw3.cell (p := ⟨_, _, none⟩) zsw2).trans s0w2
        have s1w3 : w3.cell? ⟨w.heap.size, 1, none⟩ = some (.slice ob nb cb) := (hPw3.cell (p := ⟨_, _, none⟩) zsw2).trans s1w2
        have zxw3 : w.heap.size + 1 + 1 < w3.heap.size := by omega
        have x0w3 : w3.cell? ⟨w.heap.size + 1 + 1, 0, none⟩ = some (.string id') := (hPw3.cell (p := ⟨_, _, none⟩) zxw2).trans x0w2
        have x1w3 : w3.cell? ⟨w.heap.size + 1 + 1, 1, none⟩ = some (.string sect') := (hPw3.cell (p := ⟨_, _, none⟩) zxw2).trans x1w2
        have x2w3 : w3.cell? ⟨w.heap.size + 1 + 1, 2, none⟩ = some (.string grade') := (hPw3.cell (p := ⟨_, _, none⟩) zxw2).trans x2w2
        have x3w3 : w3.cell? ⟨w.heap.size + 1 + 1, 3, none⟩ = some (.int .i64 len') := (hPw3.cell (p := ⟨_, _, none⟩) zxw2).trans x3w2
        have x4w3 : w3.cell? ⟨w.heap.size + 1 + 1, 4, none⟩ = some (.string heat') := (hPw3.cell (p := ⟨_, _, none⟩) zxw2).trans x4w2
        have zrw3 : w.heap.size + 1 + 1 + 1 < w3.heap.size := by omega
        have r0w3 : w3.cell? ⟨w.heap.size + 1 + 1 + 1, 0, none⟩ = some (.slice none 0 0) := (hPw3.cell (p := ⟨_, _, none⟩) zrw2).trans r0w2
        have r1w3 : w3.cell? ⟨w.heap.size + 1 + 1 + 1, 1, none⟩ = some (.slice none 0 0) := (hPw3.cell (p := ⟨_, _, none⟩) zrw2).trans r1w2
        have fr0w3 : w3.frozen? ⟨w.heap.size + 1 + 1 + 1, 0, none⟩ = false := (hPw3.frozen (p := ⟨_, _, none⟩) zrw2).trans fr0w2
        have fr1w3 : w3.frozen? ⟨w.heap.size + 1 + 1 + 1, 1, none⟩ = false := (hPw3.frozen (p := ⟨_, _, none⟩) zrw2).trans fr1w2
        have hBw3 : Below w.heap.size w w3 := below_step (w := w) (by first | assumption | go_grown) hb
        have hz2 := Lib.hid zrw2
        have H1 := Lib.hid hx1
        have H2 := Lib.hid hx2
        have H3 := Lib.hid hx3
        have H4 := Lib.hid hx4
        obtain ⟨o1, c1, rfl, -, -, -⟩ := hx1.form
        obtain ⟨o2, c2, rfl, -, -, -⟩ := hx2.form
        clear hx1 hx2 hx3 hx4
        clear hb hsw3 hPw3
        clear zsw2 zxw2 zrw2 s0w2 s1w2 x0w2 x1w2 x2w2 x3w2 x4w2 r0w2 r1w2 fr0w2 fr1w2
        go_wp2_with fail
        go_loopw [10] (fun i wr => ∃ j : Nat, j ≤ K ∧ i = .int .i64 j ∧ Below w3.heap.size w3 wr ∧ w3.heap.size < wr.heap.size ∧ wr.cell? ⟨w3.heap.size, 0, none⟩ = some (.slice o1 ns c1) ∧ wr.cell? ⟨w3.heap.size, 1, none⟩ = some (.slice o2 nb c2) ∧ wr.frozen? ⟨w3.heap.size, 0, none⟩ = false ∧ wr.frozen? ⟨w3.heap.size, 1, none⟩ = false) (fun i _ => K - (intOf i).toNat)
        case atStart => exact ⟨0, by omega, rfl, by first | exact Below.refl _ _ | go_grown, by simp <;> omega, by simp [go_sem], by simp [go_sem], by simp [go_sem], by simp [go_sem]⟩
        case round =>
          obtain ⟨w4, rfl⟩ : ∃ x : World, x = wr := ⟨_, rfl⟩
          obtain ⟨j, hj, rfl, hb, zow4, o0w4, o1w4, fo0w4, fo1w4⟩ := hrel
          have hsw4 := hb.size
          have zzw4 : w.heap.size < w4.heap.size := by omega
          have zsw4 : w.heap.size < w4.heap.size := by omega
          have s0w4 : w4.cell? ⟨w.heap.size, 0, none⟩ = some (.slice oa ns ca) := (hb.cell (p := ⟨_, _, none⟩) zsw3).trans s0w3
          have s1w4 : w4.cell? ⟨w.heap.size, 1, none⟩ = some (.slice ob nb cb) := (hb.cell (p := ⟨_, _, none⟩) zsw3).trans s1w3
          have zxw4 : w.heap.size + 1 + 1 < w4.heap.size := by omega
          have x0w4 : w4.cell? ⟨w.heap.size + 1 + 1, 0, none⟩ = some (.string id') := (hb.cell (p := ⟨_, _, none⟩) zxw3).trans x0w3
          have x1w4 : w4.cell? ⟨w.heap.size + 1 + 1, 1, none⟩ = some (.string sect') := (hb.cell (p := ⟨_, _, none⟩) zxw3).trans x1w3
          have x2w4 : w4.cell? ⟨w.heap.size + 1 + 1, 2, none⟩ = some (.string grade') := (hb.cell (p := ⟨_, _, none⟩) zxw3).trans x2w3
          have x3w4 : w4.cell? ⟨w.heap.size + 1 + 1, 3, none⟩ = some (.int .i64 len') := (hb.cell (p := ⟨_, _, none⟩) zxw3).trans x3w3
          have x4w4 : w4.cell? ⟨w.heap.size + 1 + 1, 4, none⟩ = some (.string heat') := (hb.cell (p := ⟨_, _, none⟩) zxw3).trans x4w3
          have zrw4 : w.heap.size + 1 + 1 + 1 < w4.heap.size := by omega
          have r0w4 : w4.cell? ⟨w.heap.size + 1 + 1 + 1, 0, none⟩ = some (.slice none 0 0) := (hb.cell (p := ⟨_, _, none⟩) zrw3).trans r0w3
          have fr0w4 : w4.frozen? ⟨w.heap.size + 1 + 1 + 1, 0, none⟩ = false := (hb.frozen (p := ⟨_, _, none⟩) zrw3).trans fr0w3
          have r1w4 : w4.cell? ⟨w.heap.size + 1 + 1 + 1, 1, none⟩ = some (.slice none 0 0) := (hb.cell (p := ⟨_, _, none⟩) zrw3).trans r1w3
          have fr1w4 : w4.frozen? ⟨w.heap.size + 1 + 1 + 1, 1, none⟩ = false := (hb.frozen (p := ⟨_, _, none⟩) zrw3).trans fr1w3
          have hBw4 : Below w.heap.size w w4 := below_step (w := w) (by first | assumption | go_grown) hb
          have HBL := Lib.hid hb
          have HBW := Lib.hid hBw4
          have hnew4 : w.heap.size + 1 + 1 + 1 < w3.heap.size := zrw3
          clear hb hsw4
          by_cases hlt : j < K
          · have hjn : j < nb := by have := HKN.out; omega
            obtain ⟨b1, f1, rfl, hbl1, hcl1⟩ := HEL.out j hjn
            have c0 : w4.cell? ⟨b1, f1 + j * 5, none⟩ = some (.string (eb j).id) := (HBW.out.cell (p := ⟨_, _, none⟩) hbl1).trans (hcl1 j hjn).1
            have hbr : b1 < w4.heap.size := by omega
            clear hcl1
            have k3 : decide ((j : Int) < (nb : Int)) = true := decide_eq_true (by omega)
            have k4 : Op.bytesLess (eb j).id.toList id'.toList = true := HLT.out j hlt
            go_wp2_with fail
            refine wp_region_relw 16 (by kernel_rfl) (by kernel_rfl) (by kernel_rfl) ?_
            simp only [List.take_succ_cons, List.take_zero, fillL, Act.put, List.setIfInBounds_toArray, List.set_cons_zero, List.set_cons_succ]
            iterate 16
              apply rel_is
              · intro u wx hb hd
                have hz := hb.size
                (try simp only [World.size_alloc, World.size_setCell] at hz)
                have hz0 : w.heap.size < wx.heap.size := by omega
                have hz1 : w.heap.size + 1 + 1 < wx.heap.size := by omega
                have hz2 : w.heap.size + 1 + 1 + 1 < wx.heap.size := by omega
                have hz3 : w3.heap.size < wx.heap.size := by omega
                have hz4 : b1 < wx.heap.size := by omega
                obtain ⟨hc, hf⟩ := bcell hb
                have HBX := Lib.hid hb
                clear hb hz
                simp [depsS, Region.binds, updS, Stay.is, Stay.any] at hd
                go_simp
                first | exact ⟨Below.refl _ _, rfl⟩ | rfl
            intro u w8 hb hE
            have e0 : u 0 = _ := endS_get hE 0 (by decide)
            have e1 : u 1 = _ := endS_get hE 1 (by decide)
            have e2 : u 2 = _ := endS_get hE 2 (by decide)
            have e3 : u 3 = _ := endS_get hE 3 (by decide)
            have e4 : u 4 = _ := endS_get hE 4 (by decide)
            have e5 : u 5 = _ := endS_get hE 5 (by decide)
            have e6 : u 6 = _ := endS_get hE 6 (by decide)
            have e7 : u 7 = _ := endS_get hE 7 (by decide)
            have e8 : u 8 = _ := endS_get hE 8 (by decide)
            have e9 : u 9 = _ := endS_get hE 9 (by decide)
            have e10 : u 10 = _ := endS_get hE 10 (by decide)
            have e11 : u 11 = _ := endS_get hE 11 (by decide)
            have e12 : u 12 = _ := endS_get hE 12 (by decide)
            have e13 : u 13 = _ := endS_get hE 13 (by decide)
            have e14 : u 14 = _ := endS_get hE 14 (by decide)
            have e15 : u 15 = _ := endS_get hE 15 (by decide)
            simp only [List.drop_succ_cons, List.drop_zero, List.take_succ_cons, List.take_zero, fillL, Act.put, List.setIfInBounds_toArray, List.set_cons_zero, List.set_cons_succ, e0, e1, e2, e3, e4, e5, e6, e7, e8, e9, e10, e11, e12, e13, e14, e15]
            clear e0 e1 e2 e3 e4 e5 e6 e7 e8 e9 e10 e11 e12 e13 e14 e15 hE
            have HBw8 := Lib.hid (below_step (w := w4) (by first | assumption | go_grown) hb)
            have HBXw8 := Lib.hid hb
            have hzw8 := hb.size
            (try simp only [World.size_alloc, World.size_setCell] at hzw8)
            have hzw80 : w.heap.size < w8.heap.size := by omega
            have hzw81 : w.heap.size + 1 + 1 < w8.heap.size := by omega
            have hzw82 : w.heap.size + 1 + 1 + 1 < w8.heap.size := by omega
            have hzw83 : w3.heap.size < w8.heap.size := by omega
            have hzw84 : b1 < w8.heap.size := by omega
            obtain ⟨hcw8, hfw8⟩ := bcell hb
            clear hb hzw8
            go_wp2
            go_roundw
            case rel => exact ⟨j + 1, by omega, by go_num, below_step HBL.out HBXw8.out, by omega, (HBXw8.out.cell (p := ⟨_, _, none⟩) zow4).trans o0w4, (HBXw8.out.cell (p := ⟨_, _, none⟩) zow4).trans o1w4, (HBXw8.out.frozen (p := ⟨_, _, none⟩) zow4).trans fo0w4, (HBXw8.out.frozen (p := ⟨_, _, none⟩) zow4).trans fo1w4⟩
            case measure => simp [intOf]; omega
          · obtain rfl : K = j := by omega
            obtain ⟨p1, pc1, hs1, hh1⟩ := head_Bar HBR.out HKN.out
            obtain ⟨p2, pc2, hs2, hh2⟩ := tail_Bar HBR.out HKN.out
            have HS1 := Lib.hid hs1
            have HS2 := Lib.hid hs2
            have HH1 := Lib.hid hh1
            have HH2 := Lib.hid hh2
            clear hs1 hs2 hh1 hh2
            by_cases hkn : K < nb
            · obtain ⟨b1, f1, rfl, hbl1, hcl1⟩ := HEL.out K hkn
              have c0 : w4.cell? ⟨b1, f1 + K * 5, none⟩ = some (.string (eb K).id) := (HBW.out.cell (p := ⟨_, _, none⟩) hbl1).trans (hcl1 K hkn).1
              have hbr : b1 < w4.heap.size := by omega
              clear hcl1
              have k3 : decide ((K : Int) < (nb : Int)) = true := decide_eq_true (by omega)
              have k4 : Op.bytesLess (eb K).id.toList id'.toList = false := HGE.out hkn
              go_wp2_with fail
              refine wp_region_relw 16 (by kernel_rfl) (by kernel_rfl) (by kernel_rfl) ?_
              simp only [List.take_succ_cons, List.take_zero, fillL, Act.put, List.setIfInBounds_toArray, List.set_cons_zero, List.set_cons_succ]
              iterate 16
                apply rel_is
                · intro u wx hb hd
                  have hz := hb.size
                  (try simp only [World.size_alloc, World.size_setCell] at hz)
                  have hz0 : w.heap.size < wx.heap.size := by omega
                  have hz1 : w.heap.size + 1 + 1 < wx.heap.size := by omega
                  have hz2 : w.heap.size + 1 + 1 + 1 < wx.heap.size := by omega
                  have hz3 : w3.heap.size < wx.heap.size := by omega
                  have hz4 : b1 < wx.heap.size := by omega
                  obtain ⟨hc, hf⟩ := bcell hb
                  have HBX := Lib.hid hb
                  clear hb hz
                  simp [depsS, Region.binds, updS, Stay.is, Stay.any] at hd
                  go_simp
                  first | exact ⟨Below.refl _ _, rfl⟩ | rfl
              intro u w8 hb hE
              have e0 : u 0 = _ := endS_get hE 0 (by decide)
              have e1 : u 1 = _ := endS_get hE 1 (by decide)
              have e2 : u 2 = _ := endS_get hE 2 (by decide)
              have e3 : u 3 = _ := endS_get hE 3 (by decide)
              have e4 : u 4 = _ := endS_get hE 4 (by decide)
              have e5 : u 5 = _ := endS_get hE 5 (by decide)
              have e6 : u 6 = _ := endS_get hE 6 (by decide)
              have e7 : u 7 = _ := endS_get hE 7 (by decide)
              have e8 : u 8 = _ := endS_get hE 8 (by decide)
              have e9 : u 9 = _ := endS_get hE 9 (by decide)
              have e10 : u 10 = _ := endS_get hE 10 (by decide)
              have e11 : u 11 = _ := endS_get hE 11 (by decide)
              have e12 : u 12 = _ := endS_get hE 12 (by decide)
              have e13 : u 13 = _ := endS_get hE 13 (by decide)
              have e14 : u 14 = _ := endS_get hE 14 (by decide)
              have e15 : u 15 = _ := endS_get hE 15 (by decide)
              simp only [List.drop_succ_cons, List.drop_zero, List.take_succ_cons, List.take_zero, fillL, Act.put, List.setIfInBounds_toArray, List.set_cons_zero, List.set_cons_succ, e0, e1, e2, e3, e4, e5, e6, e7, e8, e9, e10, e11, e12, e13, e14, e15]
              clear e0 e1 e2 e3 e4 e5 e6 e7 e8 e9 e10 e11 e12 e13 e14 e15 hE
              have HBw8 := Lib.hid (below_step (w := w4) (by first | assumption | go_grown) hb)
              have HBXw8 := Lib.hid hb
              have hzw8 := hb.size
              (try simp only [World.size_alloc, World.size_setCell] at hzw8)
              have hzw80 : w.heap.size < w8.heap.size := by omega
              have hzw81 : w.heap.size + 1 + 1 < w8.heap.size := by omega
              have hzw82 : w.heap.size + 1 + 1 + 1 < w8.heap.size := by omega
              have hzw83 : w3.heap.size < w8.heap.size := by omega
              have hzw84 : b1 < w8.heap.size := by omega
              obtain ⟨hcw8, hfw8⟩ := bcell hb
              clear hb hzw8
              have HBW8 : Hid (Below w.heap.size w w8) := below_step HBW.out HBXw8.out
              have HBL8 : Hid (Below w3.heap.size w3 w8) := below_step HBL.out HBXw8.out
              have zo8 : w3.heap.size < w8.heap.size := by omega
              have zr8 : w.heap.size + 1 + 1 + 1 < w8.heap.size := by omega
              go_wp2_with fail
              refine wp_region_own 15 [(0, 5), (5, 8), (8, 13)] (by kernel_rfl) (by kernel_rfl) (by kernel_rfl) (by kernel_rfl) (by kernel_rfl) ?_
              simp only [List.take_succ_cons, List.take_zero, fillL, Act.put, List.setIfInBounds_toArray, List.set_cons_zero, List.set_cons_succ]
              refine relo_new (OwnS.row w8.heap.size 33 5 0 []) ?_ ?_
              · intro u wx hb hd
                have hz := hb.size
                (try simp only [World.size_alloc, World.size_setCell] at hz)
                have hz0 : w.heap.size < wx.heap.size := by omega
                have hz1 : w.heap.size + 1 + 1 < wx.heap.size := by omega
                have hz2 : w.heap.size + 1 + 1 + 1 < wx.heap.size := by omega
                have hz3 : w3.heap.size < wx.heap.size := by omega
                obtain ⟨hc, hf⟩ := bcell hb
                have HBX := Lib.hid hb
                clear hb hz
                simp [depsO, Region.binds, updO, OwnS.is, OwnS.any, eaten, eats] at hd
                refine ⟨by simp [Region.wanted], ?_⟩
                go_simp
                exact ⟨(Below.refl _ _).alloc (Nat.le_refl _) _, ownsRow_built0 _ _ _ (by have := HBX.out.size; omega), fun b hb => by simp [OwnS.row, Value.ownBlock] at hb; omega⟩
              apply relo_is
              · intro u wx hb hd
                have hz := hb.size
                (try simp only [World.size_alloc, World.size_setCell] at hz)
                have hz0 : w.heap.size < wx.heap.size := by omega
                have hz1 : w.heap.size + 1 + 1 < wx.heap.size := by omega
                have hz2 : w.heap.size + 1 + 1 + 1 < wx.heap.size := by omega
                have hz3 : w3.heap.size < wx.heap.size := by omega
                obtain ⟨hc, hf⟩ := bcell hb
                have HBX := Lib.hid hb
                clear hb hz
                simp [depsO, Region.binds, updO, OwnS.is, OwnS.any, eaten, eats] at hd
                go_simp
                first | exact ⟨Below.refl _ _, rfl⟩ | rfl
              apply relo_is
              · intro u wx hb hd
                have hz := hb.size
                (try simp only [World.size_alloc, World.size_setCell] at hz)
                have hz0 : w.heap.size < wx.heap.size := by omega
                have hz1 : w.heap.size + 1 + 1 < wx.heap.size := by omega
                have hz2 : w.heap.size + 1 + 1 + 1 < wx.heap.size := by omega
                have hz3 : w3.heap.size < wx.heap.size := by omega
                obtain ⟨hc, hf⟩ := bcell hb
                have HBX := Lib.hid hb
                clear hb hz
                simp [depsO, Region.binds, updO, OwnS.is, OwnS.any, eaten, eats] at hd
                go_simp
                first | exact ⟨Below.refl _ _, rfl⟩ | rfl
              apply relo_is
              · intro u wx hb hd
                have hz := hb.size
                (try simp only [World.size_alloc, World.size_setCell] at hz)
                have hz0 : w.heap.size < wx.heap.size := by omega
                have hz1 : w.heap.size + 1 + 1 < wx.heap.size := by omega
                have hz2 : w.heap.size + 1 + 1 + 1 < wx.heap.size := by omega
                have hz3 : w3.heap.size < wx.heap.size := by omega
                obtain ⟨hc, hf⟩ := bcell hb
                have HBX := Lib.hid hb
                clear hb hz
                simp [depsO, Region.binds, updO, OwnS.is, OwnS.any, eaten, eats] at hd
                go_simp
                first | exact ⟨Below.refl _ _, rfl⟩ | rfl
              apply relo_is
              · intro u wx hb hd
                have hz := hb.size
                (try simp only [World.size_alloc, World.size_setCell] at hz)
                have hz0 : w.heap.size < wx.heap.size := by omega
                have hz1 : w.heap.size + 1 + 1 < wx.heap.size := by omega
                have hz2 : w.heap.size + 1 + 1 + 1 < wx.heap.size := by omega
                have hz3 : w3.heap.size < wx.heap.size := by omega
                obtain ⟨hc, hf⟩ := bcell hb
                have HBX := Lib.hid hb
                clear hb hz
                simp [depsO, Region.binds, updO, OwnS.is, OwnS.any, eaten, eats] at hd
                have hsl := HS1.out wx
                go_simp
                first | exact ⟨Below.refl _ _, rfl⟩ | rfl
              refine relo_append 0 (by decide) (by decide) (.tmp 49) (.tmp 53) 23 rfl rfl 33 iBar _ 5 72 0 K [] (flatL Br.enc ((rowL eb nb).take K)) Tryz.underlying23 hiBar hz0Bar hz1Bar hz2Bar rfl (by decide) (fun v w h => h) (fun v b h => h) (by decide) (by have := HKN.out; unfold maxLen; omega) (by have := HKN.out; omega) (by rw [flatL_len Br.enc_len, List.length_take, rowL_len, Nat.min_eq_left HKN.out]) (flatL_one Br.enc_one _) ?_ ?_
              · intro u wx hb hd
                have hz := hb.size
                (try simp only [World.size_alloc, World.size_setCell] at hz)
                have hz0 : w.heap.size < wx.heap.size := by omega
                have hz1 : w.heap.size + 1 + 1 < wx.heap.size := by omega
                have hz2 : w.heap.size + 1 + 1 + 1 < wx.heap.size := by omega
                have hz3 : w3.heap.size < wx.heap.size := by omega
                obtain ⟨hc, hf⟩ := bcell hb
                have HBX := Lib.hid hb
                clear hb hz
                simp [depsO, Region.binds, updO, OwnS.is, OwnS.any, eaten, eats] at hd
                go_simp
                exact ⟨HH1.out.1, fun ad had j u hj => HH1.out.2 _ (below_step HBW8.out HBX.out) ad had j u hj⟩
              apply relo_is
              · intro u wx hb hd
                have hz := hb.size
                (try simp only [World.size_alloc, World.size_setCell] at hz)
                have hz0 : w.heap.size < wx.heap.size := by omega
                have hz1 : w.heap.size + 1 + 1 < wx.heap.size := by omega
                have hz2 : w.heap.size + 1 + 1 + 1 < wx.heap.size := by omega
                have hz3 : w3.heap.size < wx.heap.size := by omega
                obtain ⟨hc, hf⟩ := bcell hb
                have HBX := Lib.hid hb
                clear hb hz
                simp [depsO, Region.binds, updO, OwnS.is, OwnS.any, eaten, eats] at hd
                go_simp
                first | exact ⟨Below.refl _ _, rfl⟩ | rfl
              refine relo_new (OwnS.built 1 #[.string id', .string sect', .string grade', .int .i64 len', .string heat'] 33) ?_ ?_
              · intro u wx hb hd
                have hz := hb.size
                (try simp only [World.size_alloc, World.size_setCell] at hz)
                have hz0 : w.heap.size < wx.heap.size := by omega
                have hz1 : w.heap.size + 1 + 1 < wx.heap.size := by omega
                have hz2 : w.heap.size + 1 + 1 + 1 < wx.heap.size := by omega
                have hz3 : w3.heap.size < wx.heap.size := by omega
                obtain ⟨hc, hf⟩ := bcell hb
                have HBX := Lib.hid hb
                clear hb hz
                simp [depsO, Region.binds, updO, OwnS.is, OwnS.any, eaten, eats] at hd
                refine ⟨by simp [Region.wanted], ?_⟩
                go_simp
                exact ⟨(Below.refl _ _).alloc (Nat.le_refl _) _, ⟨_, rfl, (MapKept.heap_alloc wx _).1⟩, fun b hb => by simp [OwnS.built, Value.ownBlock] at hb; omega⟩
              refine relo_append 5 (by decide) (by decide) (.tmp 54) (.tmp 56) 23 rfl rfl 33 iBar _ 5 72 (0 + K) 1 _ [.string id', .string sect', .string grade', .int .i64 len', .string heat'] Tryz.underlying23 hiBar hz0Bar hz1Bar hz2Bar rfl (by decide) (fun v w h => h) (fun v b h => h) (by decide) (by have := HKN.out; unfold maxLen; omega) (by have := HKN.out; omega) rfl (by intro u hu; simp at hu; rcases hu with rfl | rfl | rfl | rfl | rfl <;> rfl) ?_ ?_
              · intro u wx hb hd
                have hz := hb.size
                (try simp only [World.size_alloc, World.size_setCell] at hz)
                have hz0 : w.heap.size < wx.heap.size := by omega
                have hz1 : w.heap.size + 1 + 1 < wx.heap.size := by omega
                have hz2 : w.heap.size + 1 + 1 + 1 < wx.heap.size := by omega
                have hz3 : w3.heap.size < wx.heap.size := by omega
                obtain ⟨hc, hf⟩ := bcell hb
                have HBX := Lib.hid hb
                clear hb hz
                simp [depsO, Region.binds, updO, OwnS.is, OwnS.any, eaten, eats] at hd
                obtain ⟨g, hg1, hg2⟩ : ∃ g : Nat, u 7 = .slice (some ⟨g, 0, none⟩) 1 1 ∧ wx.heap[g]? = some (.cells #[.string id', .string sect', .string grade', .int .i64 len', .string heat'] 33) := by
                  first | exact hd | exact hd.1 | exact hd.2 | exact hd.2.1 | exact hd.2.2
                have HG2 := Lib.hid hg2
                clear hg2
                go_simp
                first | (exact fun j u hj => by have h9 := built_at HG2.out (ad := ⟨g, 0, none⟩) rfl hj; rwa [Addr.add_lit, Nat.zero_add] at h9) | exact ⟨_, _, hg1, by simp, fun ad had j u hj => built_at HG2.out had hj⟩
              apply relo_is
              · intro u wx hb hd
                have hz := hb.size
                (try simp only [World.size_alloc, World.size_setCell] at hz)
                have hz0 : w.heap.size < wx.heap.size := by omega
                have hz1 : w.heap.size + 1 + 1 < wx.heap.size := by omega
                have hz2 : w.heap.size + 1 + 1 + 1 < wx.heap.size := by omega
                have hz3 : w3.heap.size < wx.heap.size := by omega
                obtain ⟨hc, hf⟩ := bcell hb
                have HBX := Lib.hid hb
                clear hb hz
                simp [depsO, Region.binds, updO, OwnS.is, OwnS.any, eaten, eats] at hd
                go_simp
                first | exact ⟨Below.refl _ _, rfl⟩ | rfl
              apply relo_is
              · intro u wx hb hd
                have hz := hb.size
                (try simp only [World.size_alloc, World.size_setCell] at hz)
                have hz0 : w.heap.size < wx.heap.size := by omega
                have hz1 : w.heap.size + 1 + 1 < wx.heap.size := by omega
                have hz2 : w.heap.size + 1 + 1 + 1 < wx.heap.size := by omega
                have hz3 : w3.heap.size < wx.heap.size := by omega
                obtain ⟨hc, hf⟩ := bcell hb
                have HBX := Lib.hid hb
                clear hb hz
                simp [depsO, Region.binds, updO, OwnS.is, OwnS.any, eaten, eats] at hd
                go_simp
                first | exact ⟨Below.refl _ _, rfl⟩ | rfl
              apply relo_is
              · intro u wx hb hd
                have hz := hb.size
                (try simp only [World.size_alloc, World.size_setCell] at hz)
                have hz0 : w.heap.size < wx.heap.size := by omega
                have hz1 : w.heap.size + 1 + 1 < wx.heap.size := by omega
                have hz2 : w.heap.size + 1 + 1 + 1 < wx.heap.size := by omega
                have hz3 : w3.heap.size < wx.heap.size := by omega
                obtain ⟨hc, hf⟩ := bcell hb
                have HBX := Lib.hid hb
                clear hb hz
                simp [depsO, Region.binds, updO, OwnS.is, OwnS.any, eaten, eats] at hd
                go_simp
                first | exact ⟨Below.refl _ _, rfl⟩ | rfl
              apply relo_is
              · intro u wx hb hd
                have hz := hb.size
                (try simp only [World.size_alloc, World.size_setCell] at hz)
                have hz0 : w.heap.size < wx.heap.size := by omega
                have hz1 : w.heap.size + 1 + 1 < wx.heap.size := by omega
                have hz2 : w.heap.size + 1 + 1 + 1 < wx.heap.size := by omega
                have hz3 : w3.heap.size < wx.heap.size := by omega
                obtain ⟨hc, hf⟩ := bcell hb
                have HBX := Lib.hid hb
                clear hb hz
                simp [depsO, Region.binds, updO, OwnS.is, OwnS.any, eaten, eats] at hd
                have hsl := HS2.out wx
                go_simp
                first | exact ⟨Below.refl _ _, rfl⟩ | rfl
              refine relo_append 8 (by decide) (by decide) (.tmp 57) (.tmp 61) 23 rfl rfl 33 iBar _ 5 72 (0 + K + 1) (nb - K) _ (flatL Br.enc ((rowL eb nb).drop K)) Tryz.underlying23 hiBar hz0Bar hz1Bar hz2Bar rfl (by decide) (fun v w h => h) (fun v b h => h) (by decide) (by have := HKN.out; unfold maxLen; omega) (by have := HKN.out; omega) (by rw [flatL_len Br.enc_len, List.length_drop, rowL_len]) (flatL_one Br.enc_one _) ?_ ?_
              · intro u wx hb hd
                have hz := hb.size
                (try simp only [World.size_alloc, World.size_setCell] at hz)
                have hz0 : w.heap.size < wx.heap.size := by omega
                have hz1 : w.heap.size + 1 + 1 < wx.heap.size := by omega
                have hz2 : w.heap.size + 1 + 1 + 1 < wx.heap.size := by omega
                have hz3 : w3.heap.size < wx.heap.size := by omega
                obtain ⟨hc, hf⟩ := bcell hb
                have HBX := Lib.hid hb
                clear hb hz
                simp [depsO, Region.binds, updO, OwnS.is, OwnS.any, eaten, eats] at hd
                go_simp
                exact ⟨HH2.out.1, fun ad had j u hj => HH2.out.2 _ (below_step HBW8.out HBX.out) ad had j u hj⟩
              apply relo_is
              · intro u wx hb hd
                have hz := hb.size
                (try simp only [World.size_alloc, World.size_setCell] at hz)
                have hz0 : w.heap.size < wx.heap.size := by omega
                have hz1 : w.heap.size + 1 + 1 < wx.heap.size := by omega
                have hz2 : w.heap.size + 1 + 1 + 1 < wx.heap.size := by omega
                have hz3 : w3.heap.size < wx.heap.size := by omega
                obtain ⟨hc, hf⟩ := bcell hb
                have HBX := Lib.hid hb
                clear hb hz
                simp [depsO, Region.binds, updO, OwnS.is, OwnS.any, eaten, eats] at hd
                go_simp
                first | exact ⟨Below.refl _ _, rfl⟩ | rfl
              intro u w9 hb hE
              have e1 : u 1 = _ := endO_get hE 1 (by decide) (by decide)
              have e2 : u 2 = _ := endO_get hE 2 (by decide) (by decide)
              have e3 : u 3 = _ := endO_get hE 3 (by decide) (by decide)
              have e4 : u 4 = _ := endO_get hE 4 (by decide) (by decide)
              have e6 : u 6 = _ := endO_get hE 6 (by decide) (by decide)
              obtain ⟨y7, hy7⟩ : ∃ y, u 7 = y := ⟨_, rfl⟩
              have e9 : u 9 = _ := endO_get hE 9 (by decide) (by decide)
              have e10 : u 10 = _ := endO_get hE 10 (by decide) (by decide)
              have e11 : u 11 = _ := endO_get hE 11 (by decide) (by decide)
              have e12 : u 12 = _ := endO_get hE 12 (by decide) (by decide)
              have hO2 : w9.ownsRow _ _ _ (u 13) _ _ := endO_get hE 13 (by decide) (by decide)
              obtain ⟨v2, hv2⟩ : ∃ v2, u 13 = v2 := ⟨_, rfl⟩
              rw [hv2, show 0 + K + 1 + (nb - K) = nb + 1 by have := HKN.out; omega, show ([] : List Value) ++ flatL Br.enc ((rowL eb nb).take K) ++ [.string id', .string sect', .string grade', .int .i64 len', .string heat'] ++ flatL Br.enc ((rowL eb nb).drop K) = flatL Br.enc (rowL (insF eb K (⟨id', sect', grade', len', heat'⟩ : Br)) (nb + 1)) by rw [rowL_ins eb (⟨id', sect', grade', len', heat'⟩ : Br) HKN.out, flatL_append, flatL_append, List.nil_append, List.append_assoc]; rfl] at hO2
              have HO2 := Lib.hid hO2
              clear hO2
              have e14 : u 14 = _ := endO_get hE 14 (by decide) (by decide)
              simp only [List.drop_succ_cons, List.drop_zero, List.take_succ_cons, List.take_zero, fillL, Act.put, List.setIfInBounds_toArray, List.set_cons_zero, List.set_cons_succ, e1, e2, e3, e4, e6, hy7, e9, e10, e11, e12, hv2, e14]
              clear e1 e2 e3 e4 e6 hy7 e9 e10 e11 e12 hv2 e14 hE
              have HBw9 := Lib.hid (below_step (w := w8) (by first | assumption | go_grown) hb)
              have HBXw9 := Lib.hid hb
              have hzw9 := hb.size
              (try simp only [World.size_alloc, World.size_setCell] at hzw9)
              have hzw90 : w.heap.size < w9.heap.size := by omega
              have hzw91 : w.heap.size + 1 + 1 < w9.heap.size := by omega
              have hzw92 : w.heap.size + 1 + 1 + 1 < w9.heap.size := by omega
              have hzw93 : w3.heap.size < w9.heap.size := by omega
              obtain ⟨hcw9, hfw9⟩ := bcell hb
              clear hb hzw9
              have hs2 := owns_br HO2.out
              obtain ⟨o7, c7, rfl, -, -, -⟩ := hs2.form
              clear hs2
              have hn7 := (owns_new HO2.out)
              have HA6 := Lib.hid (owns_br HO2.out)
              have HM7 := Lib.hid hn7
              clear hn7
              have y0 : w9.cell? ⟨w3.heap.size, 0, none⟩ = some (.slice o1 ns c1) := (HBXw9.out.cell (p := ⟨_, _, none⟩) zo8).trans ((HBXw8.out.cell (p := ⟨_, _, none⟩) zow4).trans o0w4)
              have yf0 : w9.frozen? ⟨w3.heap.size, 0, none⟩ = false := (HBXw9.out.frozen (p := ⟨_, _, none⟩) zo8).trans ((HBXw8.out.frozen (p := ⟨_, _, none⟩) zow4).trans fo0w4)
              have yr0 : w9.cell? ⟨w.heap.size + 1 + 1 + 1, 0, none⟩ = some (.slice none 0 0) := (HBXw9.out.cell (p := ⟨_, _, none⟩) zr8).trans ((HBXw8.out.cell (p := ⟨_, _, none⟩) zrw4).trans r0w4)
              have yrf0 : w9.frozen? ⟨w.heap.size + 1 + 1 + 1, 0, none⟩ = false := (HBXw9.out.frozen (p := ⟨_, _, none⟩) zr8).trans ((HBXw8.out.frozen (p := ⟨_, _, none⟩) zrw4).trans fr0w4)
              have y1 : w9.cell? ⟨w3.heap.size, 1, none⟩ = some (.slice o2 nb c2) := (HBXw9.out.cell (p := ⟨_, _, none⟩) zo8).trans ((HBXw8.out.cell (p := ⟨_, _, none⟩) zow4).trans o1w4)
              have yf1 : w9.frozen? ⟨w3.heap.size, 1, none⟩ = false := (HBXw9.out.frozen (p := ⟨_, _, none⟩) zo8).trans ((HBXw8.out.frozen (p := ⟨_, _, none⟩) zow4).trans fo1w4)
              have yr1 : w9.cell? ⟨w.heap.size + 1 + 1 + 1, 1, none⟩ = some (.slice none 0 0) := (HBXw9.out.cell (p := ⟨_, _, none⟩) zr8).trans ((HBXw8.out.cell (p := ⟨_, _, none⟩) zrw4).trans r1w4)
              have yrf1 : w9.frozen? ⟨w.heap.size + 1 + 1 + 1, 1, none⟩ = false := (HBXw9.out.frozen (p := ⟨_, _, none⟩) zr8).trans ((HBXw8.out.frozen (p := ⟨_, _, none⟩) zrw4).trans fr1w4)
              clear hcw9 hfw9
              go_wp2
              all_goals (refine bodyPost_ret (v := .tuple #[.agg #[.slice o1 ns c1, .slice o7 (nb + 1) c7], .int .i64 0]) (by simp (maxDischargeDepth := 9) [results, Tryz.results12, go_sem, *]) rfl ?_)
              rw [HZ.out.1, HZ.out.2.1, HZ.out.2.2]
              have hz2' := hz2.out
              refine ⟨_, rfl, ⟨_, _, rfl, ?_, ?_⟩, ?_⟩
              · exact sh_set (sh_set (H1.out.below ((below_step HBL8.out HBXw9.out).setCell (Nat.le_refl _) _)) H3.out _ _ _ (by omega)) H3.out _ _ _ (by omega)
              · exact br_set (br_set (br_set (HA6.out) HM7.out _ _ _ (by omega)) HM7.out _ _ _ (by omega)) HM7.out _ _ _ (by omega)
              · exact ((((below_step HBW8.out HBXw9.out)).setCell (by dsimp only; omega) _).setCell (by dsimp only; omega) _).setCell (by dsimp only; omega) _
            · have k3 : decide ((K : Int) < (nb : Int)) = false := decide_eq_false (by omega)
              go_wp2_with fail
              refine wp_region_relw 16 (by kernel_rfl) (by kernel_rfl) (by kernel_rfl) ?_
              simp only [List.take_succ_cons, List.take_zero, fillL, Act.put, List.setIfInBounds_toArray, List.set_cons_zero, List.set_cons_succ]
              iterate 16
                apply rel_is
                · intro u wx hb hd
                  have hz := hb.size
                  (try simp only [World.size_alloc, World.size_setCell] at hz)
                  have hz0 : w.heap.size < wx.heap.size := by omega
                  have hz1 : w.heap.size + 1 + 1 < wx.heap.size := by omega
                  have hz2 : w.heap.size + 1 + 1 + 1 < wx.heap.size := by omega
                  have hz3 : w3.heap.size < wx.heap.size := by omega
                  obtain ⟨hc, hf⟩ := bcell hb
                  have HBX := Lib.hid hb
                  clear hb hz
                  simp [depsS, Region.binds, updS, Stay.is, Stay.any] at hd
                  go_simp
                  first | exact ⟨Below.refl _ _, rfl⟩ | rfl
              intro u w8 hb hE
              have e0 : u 0 = _ := endS_get hE 0 (by decide)
              have e1 : u 1 = _ := endS_get hE 1 (by decide)
              have e2 : u 2 = _ := endS_get hE 2 (by decide)
              have e3 : u 3 = _ := endS_get hE 3 (by decide)
              have e4 : u 4 = _ := endS_get hE 4 (by decide)
              have e5 : u 5 = _ := endS_get hE 5 (by decide)
              have e6 : u 6 = _ := endS_get hE 6 (by decide)
              have e7 : u 7 = _ := endS_get hE 7 (by decide)
              have e8 : u 8 = _ := endS_get hE 8 (by decide)
              have e9 : u 9 = _ := endS_get hE 9 (by decide)
              have e10 : u 10 = _ := endS_get hE 10 (by decide)
              have e11 : u 11 = _ := endS_get hE 11 (by decide)
              have e12 : u 12 = _ := endS_get hE 12 (by decide)
              have e13 : u 13 = _ := endS_get hE 13 (by decide)
              have e14 : u 14 = _ := endS_get hE 14 (by decide)
              have e15 : u 15 = _ := endS_get hE 15 (by decide)
              simp only [List.drop_succ_cons, List.drop_zero, List.take_succ_cons, List.take_zero, fillL, Act.put, List.setIfInBounds_toArray, List.set_cons_zero, List.set_cons_succ, e0, e1, e2, e3, e4, e5, e6, e7, e8, e9, e10, e11, e12, e13, e14, e15]
              clear e0 e1 e2 e3 e4 e5 e6 e7 e8 e9 e10 e11 e12 e13 e14 e15 hE
              have HBw8 := Lib.hid (below_step (w := w4) (by first | assumption | go_grown) hb)
              have HBXw8 := Lib.hid hb
              have hzw8 := hb.size
              (try simp only [World.size_alloc, World.size_setCell] at hzw8)
              have hzw80 : w.heap.size < w8.heap.size := by omega
              have hzw81 : w.heap.size + 1 + 1 < w8.heap.size := by omega
              have hzw82 : w.heap.size + 1 + 1 + 1 < w8.heap.size := by omega
              have hzw83 : w3.heap.size < w8.heap.size := by omega
              obtain ⟨hcw8, hfw8⟩ := bcell hb
              clear hb hzw8
              have HBW8 : Hid (Below w.heap.size w w8) := below_step HBW.out HBXw8.out
              have HBL8 : Hid (Below w3.heap.size w3 w8) := below_step HBL.out HBXw8.out
              have zo8 : w3.heap.size < w8.heap.size := by omega
              have zr8 : w.heap.size + 1 + 1 + 1 < w8.heap.size := by omega
              go_wp2_with fail
              refine wp_region_own 15 [(0, 5), (5, 8), (8, 13)] (by kernel_rfl) (by kernel_rfl) (by kernel_rfl) (by kernel_rfl) (by kernel_rfl) ?_
              simp only [List.take_succ_cons, List.take_zero, fillL, Act.put, List.setIfInBounds_toArray, List.set_cons_zero, List.set_cons_succ]
              refine relo_new (OwnS.row w8.heap.size 33 5 0 []) ?_ ?_
              · intro u wx hb hd
                have hz := hb.size
                (try simp only [World.size_alloc, World.size_setCell] at hz)
                have hz0 : w.heap.size < wx.heap.size := by omega
                have hz1 : w.heap.size + 1 + 1 < wx.heap.size := by omega
                have hz2 : w.heap.size + 1 + 1 + 1 < wx.heap.size := by omega
                have hz3 : w3.heap.size < wx.heap.size := by omega
                obtain ⟨hc, hf⟩ := bcell hb
                have HBX := Lib.hid hb
                clear hb hz
                simp [depsO, Region.binds, updO, OwnS.is, OwnS.any, eaten, eats] at hd
                refine ⟨by simp [Region.wanted], ?_⟩
                go_simp
                exact ⟨(Below.refl _ _).alloc (Nat.le_refl _) _, ownsRow_built0 _ _ _ (by have := HBX.out.size; omega), fun b hb => by simp [OwnS.row, Value.ownBlock] at hb; omega⟩
              apply relo_is
              · intro u wx hb hd
                have hz := hb.size
                (try simp only [World.size_alloc, World.size_setCell] at hz)
                have hz0 : w.heap.size < wx.heap.size := by omega
                have hz1 : w.heap.size + 1 + 1 < wx.heap.size := by omega
                have hz2 : w.heap.size + 1 + 1 + 1 < wx.heap.size := by omega
                have hz3 : w3.heap.size < wx.heap.size := by omega
                obtain ⟨hc, hf⟩ := bcell hb
                have HBX := Lib.hid hb
                clear hb hz
                simp [depsO, Region.binds, updO, OwnS.is, OwnS.any, eaten, eats] at hd
                go_simp
                first | exact ⟨Below.refl _ _, rfl⟩ | rfl
              apply relo_is
              · intro u wx hb hd
                have hz := hb.size
                (try simp only [World.size_alloc, World.size_setCell] at hz)
                have hz0 : w.heap.size < wx.heap.size := by omega
                have hz1 : w.heap.size + 1 + 1 < wx.heap.size := by omega
                have hz2 : w.heap.size + 1 + 1 + 1 < wx.heap.size := by omega
                have hz3 : w3.heap.size < wx.heap.size := by omega
                obtain ⟨hc, hf⟩ := bcell hb
                have HBX := Lib.hid hb
                clear hb hz
                simp [depsO, Region.binds, updO, OwnS.is, OwnS.any, eaten, eats] at hd
                go_simp
                first | exact ⟨Below.refl _ _, rfl⟩ | rfl
              apply relo_is
              · intro u wx hb hd
                have hz := hb.size
                (try simp only [World.size_alloc, World.size_setCell] at hz)
                have hz0 : w.heap.size < wx.heap.size := by omega
                have hz1 : w.heap.size + 1 + 1 < wx.heap.size := by omega
                have hz2 : w.heap.size + 1 + 1 + 1 < wx.heap.size := by omega
                have hz3 : w3.heap.size < wx.heap.size := by omega
                obtain ⟨hc, hf⟩ := bcell hb
                have HBX := Lib.hid hb
                clear hb hz
                simp [depsO, Region.binds, updO, OwnS.is, OwnS.any, eaten, eats] at hd
                go_simp
                first | exact ⟨Below.refl _ _, rfl⟩ | rfl
              apply relo_is
              · intro u wx hb hd
                have hz := hb.size
                (try simp only [World.size_alloc, World.size_setCell] at hz)
                have hz0 : w.heap.size < wx.heap.size := by omega
                have hz1 : w.heap.size + 1 + 1 < wx.heap.size := by omega
                have hz2 : w.heap.size + 1 + 1 + 1 < wx.heap.size := by omega
                have hz3 : w3.heap.size < wx.heap.size := by omega
                obtain ⟨hc, hf⟩ := bcell hb
                have HBX := Lib.hid hb
                clear hb hz
                simp [depsO, Region.binds, updO, OwnS.is, OwnS.any, eaten, eats] at hd
                have hsl := HS1.out wx
                go_simp
                first | exact ⟨Below.refl _ _, rfl⟩ | rfl
              refine relo_append 0 (by decide) (by decide) (.tmp 49) (.tmp 53) 23 rfl rfl 33 iBar _ 5 72 0 K [] (flatL Br.enc ((rowL eb nb).take K)) Tryz.underlying23 hiBar hz0Bar hz1Bar hz2Bar rfl (by decide) (fun v w h => h) (fun v b h => h) (by decide) (by have := HKN.out; unfold maxLen; omega) (by have := HKN.out; omega) (by rw [flatL_len Br.enc_len, List.length_take, rowL_len, Nat.min_eq_left HKN.out]) (flatL_one Br.enc_one _) ?_ ?_
              · intro u wx hb hd
                have hz := hb.size
                (try simp only [World.size_alloc, World.size_setCell] at hz)
                have hz0 : w.heap.size < wx.heap.size := by omega
                have hz1 : w.heap.size + 1 + 1 < wx.heap.size := by omega
                have hz2 : w.heap.size + 1 + 1 + 1 < wx.heap.size := by omega
                have hz3 : w3.heap.size < wx.heap.size := by omega
                obtain ⟨hc, hf⟩ := bcell hb
                have HBX := Lib.hid hb
                clear hb hz
                simp [depsO, Region.binds, updO, OwnS.is, OwnS.any, eaten, eats] at hd
                go_simp
                exact ⟨HH1.out.1, fun ad had j u hj => HH1.out.2 _ (below_step HBW8.out HBX.out) ad had j u hj⟩
              apply relo_is
              · intro u wx hb hd
                have hz := hb.size
                (try simp only [World.size_alloc, World.size_setCell] at hz)
                have hz0 : w.heap.size < wx.heap.size := by omega
                have hz1 : w.heap.size + 1 + 1 < wx.heap.size := by omega
                have hz2 : w.heap.size + 1 + 1 + 1 < wx.heap.size := by omega
                have hz3 : w3.heap.size < wx.heap.size := by omega
                obtain ⟨hc, hf⟩ := bcell hb
                have HBX := Lib.hid hb
                clear hb hz
                simp [depsO, Region.binds, updO, OwnS.is, OwnS.any, eaten, eats] at hd
                go_simp
                first | exact ⟨Below.refl _ _, rfl⟩ | rfl
              refine relo_new (OwnS.built 1 #[.string id', .string sect', .string grade', .int .i64 len', .string heat'] 33) ?_ ?_
              · intro u wx hb hd
                have hz := hb.size
                (try simp only [World.size_alloc, World.size_setCell] at hz)
                have hz0 : w.heap.size < wx.heap.size := by omega
                have hz1 : w.heap.size + 1 + 1 < wx.heap.size := by omega
                have hz2 : w.heap.size + 1 + 1 + 1 < wx.heap.size := by omega
                have hz3 : w3.heap.size < wx.heap.size := by omega
                obtain ⟨hc, hf⟩ := bcell hb
                have HBX := Lib.hid hb
                clear hb hz
                simp [depsO, Region.binds, updO, OwnS.is, OwnS.any, eaten, eats] at hd
                refine ⟨by simp [Region.wanted], ?_⟩
                go_simp
                exact ⟨(Below.refl _ _).alloc (Nat.le_refl _) _, ⟨_, rfl, (MapKept.heap_alloc wx _).1⟩, fun b hb => by simp [OwnS.built, Value.ownBlock] at hb; omega⟩
              refine relo_append 5 (by decide) (by decide) (.tmp 54) (.tmp 56) 23 rfl rfl 33 iBar _ 5 72 (0 + K) 1 _ [.string id', .string sect', .string grade', .int .i64 len', .string heat'] Tryz.underlying23 hiBar hz0Bar hz1Bar hz2Bar rfl (by decide) (fun v w h => h) (fun v b h => h) (by decide) (by have := HKN.out; unfold maxLen; omega) (by have := HKN.out; omega) rfl (by intro u hu; simp at hu; rcases hu with rfl | rfl | rfl | rfl | rfl <;> rfl) ?_ ?_
              · intro u wx hb hd
                have hz := hb.size
                (try simp only [World.size_alloc, World.size_setCell] at hz)
                have hz0 : w.heap.size < wx.heap.size := by omega
                have hz1 : w.heap.size + 1 + 1 < wx.heap.size := by omega
                have hz2 : w.heap.size + 1 + 1 + 1 < wx.heap.size := by omega
                have hz3 : w3.heap.size < wx.heap.size := by omega
                obtain ⟨hc, hf⟩ := bcell hb
                have HBX := Lib.hid hb
                clear hb hz
                simp [depsO, Region.binds, updO, OwnS.is, OwnS.any, eaten, eats] at hd
                obtain ⟨g, hg1, hg2⟩ : ∃ g : Nat, u 7 = .slice (some ⟨g, 0, none⟩) 1 1 ∧ wx.heap[g]? = some (.cells #[.string id', .string sect', .string grade', .int .i64 len', .string heat'] 33) := by
                  first | exact hd | exact hd.1 | exact hd.2 | exact hd.2.1 | exact hd.2.2
                have HG2 := Lib.hid hg2
                clear hg2
                go_simp
                first | (exact fun j u hj => by have h9 := built_at HG2.out (ad := ⟨g, 0, none⟩) rfl hj; rwa [Addr.add_lit, Nat.zero_add] at h9) | exact ⟨_, _, hg1, by simp, fun ad had j u hj => built_at HG2.out had hj⟩
              apply relo_is
              · intro u wx hb hd
                have hz := hb.size
                (try simp only [World.size_alloc, World.size_setCell] at hz)
                have hz0 : w.heap.size < wx.heap.size := by omega
                have hz1 : w.heap.size + 1 + 1 < wx.heap.size := by omega
                have hz2 : w.heap.size + 1 + 1 + 1 < wx.heap.size := by omega
                have hz3 : w3.heap.size < wx.heap.size := by omega
                obtain ⟨hc, hf⟩ := bcell hb
                have HBX := Lib.hid hb
                clear hb hz
                simp [depsO, Region.binds, updO, OwnS.is, OwnS.any, eaten, eats] at hd
                go_simp
                first | exact ⟨Below.refl _ _, rfl⟩ | rfl
              apply relo_is
              · intro u wx hb hd
                have hz := hb.size
                (try simp only [World.size_alloc, World.size_setCell] at hz)
                have hz0 : w.heap.size < wx.heap.size := by omega
                have hz1 : w.heap.size + 1 + 1 < wx.heap.size := by omega
                have hz2 : w.heap.size + 1 + 1 + 1 < wx.heap.size := by omega
                have hz3 : w3.heap.size < wx.heap.size := by omega
                obtain ⟨hc, hf⟩ := bcell hb
                have HBX := Lib.hid hb
                clear hb hz
                simp [depsO, Region.binds, updO, OwnS.is, OwnS.any, eaten, eats] at hd
                go_simp
                first | exact ⟨Below.refl _ _, rfl⟩ | rfl
              apply relo_is
              · intro u wx hb hd
                have hz := hb.size
                (try simp only [World.size_alloc, World.size_setCell] at hz)
                have hz0 : w.heap.size < wx.heap.size := by omega
                have hz1 : w.heap.size + 1 + 1 < wx.heap.size := by omega
                have hz2 : w.heap.size + 1 + 1 + 1 < wx.heap.size := by omega
                have hz3 : w3.heap.size < wx.heap.size := by omega
                obtain ⟨hc, hf⟩ := bcell hb
                have HBX := Lib.hid hb
                clear hb hz
                simp [depsO, Region.binds, updO, OwnS.is, OwnS.any, eaten, eats] at hd
                go_simp
                first | exact ⟨Below.refl _ _, rfl⟩ | rfl
              apply relo_is
              · intro u wx hb hd
                have hz := hb.size
                (try simp only [World.size_alloc, World.size_setCell] at hz)
                have hz0 : w.heap.size < wx.heap.size := by omega
                have hz1 : w.heap.size + 1 + 1 < wx.heap.size := by omega
                have hz2 : w.heap.size + 1 + 1 + 1 < wx.heap.size := by omega
                have hz3 : w3.heap.size < wx.heap.size := by omega
                obtain ⟨hc, hf⟩ := bcell hb
                have HBX := Lib.hid hb
                clear hb hz
                simp [depsO, Region.binds, updO, OwnS.is, OwnS.any, eaten, eats] at hd
                have hsl := HS2.out wx
                go_simp
                first | exact ⟨Below.refl _ _, rfl⟩ | rfl
              refine relo_append 8 (by decide) (by decide) (.tmp 57) (.tmp 61) 23 rfl rfl 33 iBar _ 5 72 (0 + K + 1) (nb - K) _ (flatL Br.enc ((rowL eb nb).drop K)) Tryz.underlying23 hiBar hz0Bar hz1Bar hz2Bar rfl (by decide) (fun v w h => h) (fun v b h => h) (by decide) (by have := HKN.out; unfold maxLen; omega) (by have := HKN.out; omega) (by rw [flatL_len Br.enc_len, List.length_drop, rowL_len]) (flatL_one Br.enc_one _) ?_ ?_
              · intro u wx hb hd
                have hz := hb.size
                (try simp only [World.size_alloc, World.size_setCell] at hz)
                have hz0 : w.heap.size < wx.heap.size := by omega
                have hz1 : w.heap.size + 1 + 1 < wx.heap.size := by omega
                have hz2 : w.heap.size + 1 + 1 + 1 < wx.heap.size := by omega
                have hz3 : w3.heap.size < wx.heap.size := by omega
                obtain ⟨hc, hf⟩ := bcell hb
                have HBX := Lib.hid hb
                clear hb hz
                simp [depsO, Region.binds, updO, OwnS.is, OwnS.any, eaten, eats] at hd
                go_simp
                exact ⟨HH2.out.1, fun ad had j u hj => HH2.out.2 _ (below_step HBW8.out HBX.out) ad had j u hj⟩
              apply relo_is
              · intro u wx hb hd
                have hz := hb.size
                (try simp only [World.size_alloc, World.size_setCell] at hz)
                have hz0 : w.heap.size < wx.heap.size := by omega
                have hz1 : w.heap.size + 1 + 1 < wx.heap.size := by omega
                have hz2 : w.heap.size + 1 + 1 + 1 < wx.heap.size := by omega
                have hz3 : w3.heap.size < wx.heap.size := by omega
                obtain ⟨hc, hf⟩ := bcell hb
                have HBX := Lib.hid hb
                clear hb hz
                simp [depsO, Region.binds, updO, OwnS.is, OwnS.any, eaten, eats] at hd
                go_simp
                first | exact ⟨Below.refl _ _, rfl⟩ | rfl
              intro u w9 hb hE
              have e1 : u 1 = _ := endO_get hE 1 (by decide) (by decide)
              have e2 : u 2 = _ := endO_get hE 2 (by decide) (by decide)
              have e3 : u 3 = _ := endO_get hE 3 (by decide) (by decide)
              have e4 : u 4 = _ := endO_get hE 4 (by decide) (by decide)
              have e6 : u 6 = _ := endO_get hE 6 (by decide) (by decide)
              obtain ⟨y7, hy7⟩ : ∃ y, u 7 = y := ⟨_, rfl⟩
              have e9 : u 9 = _ := endO_get hE 9 (by decide) (by decide)
              have e10 : u 10 = _ := endO_get hE 10 (by decide) (by decide)
              have e11 : u 11 = _ := endO_get hE 11 (by decide) (by decide)
              have e12 : u 12 = _ := endO_get hE 12 (by decide) (by decide)
              have hO2 : w9.ownsRow _ _ _ (u 13) _ _ := endO_get hE 13 (by decide) (by decide)
              obtain ⟨v2, hv2⟩ : ∃ v2, u 13 = v2 := ⟨_, rfl⟩
              rw [hv2, show 0 + K + 1 + (nb - K) = nb + 1 by have := HKN.out; omega, show ([] : List Value) ++ flatL Br.enc ((rowL eb nb).take K) ++ [.string id', .string sect', .string grade', .int .i64 len', .string heat'] ++ flatL Br.enc ((rowL eb nb).drop K) = flatL Br.enc (rowL (insF eb K (⟨id', sect', grade', len', heat'⟩ : Br)) (nb + 1)) by rw [rowL_ins eb (⟨id', sect', grade', len', heat'⟩ : Br) HKN.out, flatL_append, flatL_append, List.nil_append, List.append_assoc]; rfl] at hO2
              have HO2 := Lib.hid hO2
              clear hO2
              have e14 : u 14 = _ := endO_get hE 14 (by decide) (by decide)
              simp only [List.drop_succ_cons, List.drop_zero, List.take_succ_cons, List.take_zero, fillL, Act.put, List.setIfInBounds_toArray, List.set_cons_zero, List.set_cons_succ, e1, e2, e3, e4, e6, hy7, e9, e10, e11, e12, hv2, e14]
              clear e1 e2 e3 e4 e6 hy7 e9 e10 e11 e12 hv2 e14 hE
              have HBw9 := Lib.hid (below_step (w := w8) (by first | assumption | go_grown) hb)
              have HBXw9 := Lib.hid hb
              have hzw9 := hb.size
              (try simp only [World.size_alloc, World.size_setCell] at hzw9)
              have hzw90 : w.heap.size < w9.heap.size := by omega
              have hzw91 : w.heap.size + 1 + 1 < w9.heap.size := by omega
              have hzw92 : w.heap.size + 1 + 1 + 1 < w9.heap.size := by omega
              have hzw93 : w3.heap.size < w9.heap.size := by omega
              obtain ⟨hcw9, hfw9⟩ := bcell hb
              clear hb hzw9
              have hs2 := owns_br HO2.out
              obtain ⟨o7, c7, rfl, -, -, -⟩ := hs2.form
              clear hs2
              have hn7 := (owns_new HO2.out)
              have HA6 := Lib.hid (owns_br HO2.out)
              have HM7 := Lib.hid hn7
              clear hn7
              have y0 : w9.cell? ⟨w3.heap.size, 0, none⟩ = some (.slice o1 ns c1) := (HBXw9.out.cell (p := ⟨_, _, none⟩) zo8).trans ((HBXw8.out.cell (p := ⟨_, _, none⟩) zow4).trans o0w4)
              have yf0 : w9.frozen? ⟨w3.heap.size, 0, none⟩ = false := (HBXw9.out.frozen (p := ⟨_, _, none⟩) zo8).trans ((HBXw8.out.frozen (p := ⟨_, _, none⟩) zow4).trans fo0w4)
              have yr0 : w9.cell? ⟨w.heap.size + 1 + 1 + 1, 0, none⟩ = some (.slice none 0 0) := (HBXw9.out.cell (p := ⟨_, _, none⟩) zr8).trans ((HBXw8.out.cell (p := ⟨_, _, none⟩) zrw4).trans r0w4)
              have yrf0 : w9.frozen? ⟨w.heap.size + 1 + 1 + 1, 0, none⟩ = false := (HBXw9.out.frozen (p := ⟨_, _, none⟩) zr8).trans ((HBXw8.out.frozen (p := ⟨_, _, none⟩) zrw4).trans fr0w4)
              have y1 : w9.cell? ⟨w3.heap.size, 1, none⟩ = some (.slice o2 nb c2) := (HBXw9.out.cell (p := ⟨_, _, none⟩) zo8).trans ((HBXw8.out.cell (p := ⟨_, _, none⟩) zow4).trans o1w4)
              have yf1 : w9.frozen? ⟨w3.heap.size, 1, none⟩ = false := (HBXw9.out.frozen (p := ⟨_, _, none⟩) zo8).trans ((HBXw8.out.frozen (p := ⟨_, _, none⟩) zow4).trans fo1w4)
              have yr1 : w9.cell? ⟨w.heap.size + 1 + 1 + 1, 1, none⟩ = some (.slice none 0 0) := (HBXw9.out.cell (p := ⟨_, _, none⟩) zr8).trans ((HBXw8.out.cell (p := ⟨_, _, none⟩) zrw4).trans r1w4)
              have yrf1 : w9.frozen? ⟨w.heap.size + 1 + 1 + 1, 1, none⟩ = false := (HBXw9.out.frozen (p := ⟨_, _, none⟩) zr8).trans ((HBXw8.out.frozen (p := ⟨_, _, none⟩) zrw4).trans fr1w4)
              clear hcw9 hfw9
              go_wp2
              all_goals (refine bodyPost_ret (v := .tuple #[.agg #[.slice o1 ns c1, .slice o7 (nb + 1) c7], .int .i64 0]) (by simp (maxDischargeDepth := 9) [results, Tryz.results12, go_sem, *]) rfl ?_)
              rw [HZ.out.1, HZ.out.2.1, HZ.out.2.2]
              have hz2' := hz2.out
              refine ⟨_, rfl, ⟨_, _, rfl, ?_, ?_⟩, ?_⟩
              · exact sh_set (sh_set (H1.out.below ((below_step HBL8.out HBXw9.out).setCell (Nat.le_refl _) _)) H3.out _ _ _ (by omega)) H3.out _ _ _ (by omega)
              · exact br_set (br_set (br_set (HA6.out) HM7.out _ _ _ (by omega)) HM7.out _ _ _ (by omega)) HM7.out _ _ _ (by omega)
              · exact ((((below_step HBW8.out HBXw9.out)).setCell (by dsimp only; omega) _).setCell (by dsimp only; omega) _).setCell (by dsimp only; omega) _
  · have k0 : (EE != 0) = true := by simpa using hE0
    have HZ : Hid (RR = EE ∧ NS = 0 ∧ NB = 0) := by
      have h1 : RR = EE := by rw [← HRR.out]; exact if_pos hE0
      exact ⟨h1, by rw [← HNS.out, if_neg (by rw [h1]; exact hE0)], by rw [← HNB.out, if_neg (by rw [h1]; exact hE0)]⟩
    clear hE0
    go_wp2
    all_goals (refine bodyPost_ret (v := .tuple #[.agg #[.slice none 0 0, .slice none 0 0], .int .i64 EE]) (by simp (maxDischargeDepth := 9) [results, Tryz.results12, go_sem, *]) rfl ?_)
    rw [HZ.out.1, HZ.out.2.1, HZ.out.2.2]
    exact ⟨_, rfl, St_zero _ _ _, by go_grown⟩
end Go.Proofs.YtiddpaaihloopaaGreatDoor
