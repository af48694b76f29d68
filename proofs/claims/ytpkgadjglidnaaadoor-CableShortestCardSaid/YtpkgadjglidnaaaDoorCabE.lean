/-
  The reference's Check, by a walk. Conditions: as stated. By an AI agent.
-/
import Derived.Test.YtpkgadjglidnaaaDoorCabD
namespace Go.Proofs.YtpkgadjglidnaaaDoor
open Go Go.ChangeShapes Go.WideShapes Go.RowKit Go.ChangeAt
set_option linter.unusedVariables false
set_option linter.unusedSimpArgs false

set_option maxHeartbeats 8000000 in
set_option maxRecDepth 20000 in
theorem rCheck_any (v c : Value) (n m : Nat) (T : Nat → Tr) (C : Nat → Cb) (w : World) (h : TraysAt w v n T) (h' : CabsAt w c m C) (hs : ∀ i, i < m → (C i).id.size ≤ 200) :
    Calls Tryd.prog 15 #[v, c] w fun e w' => e = .returned (.int .i64 (checkF n T m C)) ∧ Below w.heap.size w w' := by
  obtain ⟨oa, ca, rfl, hn, hel⟩ := h.form
  obtain ⟨ob, cb, rfl, hn', hub⟩ := h'.form
  have HEL := Lib.hid hel
  have HCL := Lib.hid hub
  have HSZ := Lib.hid hs
  obtain ⟨R, hR⟩ : ∃ R, checkF n T m C = R := ⟨_, rfl⟩
  rw [hR]
  have HR := Lib.hid hR
  clear h h' hel hub hs hR
  by_cases hn64 : 64 < n
  · have kn : decide ((64 : Int) < (n : Int)) = true := decide_eq_true (by omega)
    have HR0 : Hid (R = 4) := by show _ = _; rw [← HR.out]; exact if_pos (.inl hn64)
    go_enter Tryd.func15, Tryd.ntmps15
    go_wp2
    go_returns
    rw [HR0.out]
    exact ⟨rfl, Below.refl _ _⟩
  · by_cases hm64 : 64 < m
    · have kn : decide ((64 : Int) < (n : Int)) = false := decide_eq_false (by omega)
      have km : decide ((64 : Int) < (m : Int)) = true := decide_eq_true (by omega)
      have HR0 : Hid (R = 4) := by show _ = _; rw [← HR.out]; exact if_pos (.inr hm64)
      go_enter Tryd.func15, Tryd.ntmps15
      go_wp2
      go_returns
      rw [HR0.out]
      exact ⟨rfl, Below.refl _ _⟩
    · have kn : decide ((64 : Int) < (n : Int)) = false := decide_eq_false (by omega)
      have km : decide ((64 : Int) < (m : Int)) = false := decide_eq_false (by omega)
      have HNO1 : Hid (∀ j, j < n → (∀ i, i < j → trE (T i) = 0) → trE (T j) ≠ 0 → R = trE (T j)) := fun q h1 h2 h3 => by
        have e := firstE_hit (f := fun i => trE (T i)) h2 h3 h1
        rw [← HR.out]
        unfold checkF
        rw [if_neg (by omega), e]
        exact if_pos h3
      have HRB : Hid ((∀ i, i < n → trE (T i) = 0) → firstE (cbE C) m = R) := fun h => by
        rw [← HR.out]
        unfold checkF
        rw [if_neg (by omega), firstE_all (f := fun i => trE (T i)) h]
        rfl
      clear hn64 hm64
      go_enter Tryd.func15, Tryd.ntmps15
      go_wp2
      go_loopw [5] (fun i wr => ∃ j : Nat, j ≤ n ∧ i = .int .i64 j ∧ Hid (∀ i, i < j → trE (T i) = 0) ∧ Below w.heap.size w wr) (fun i _ => n - (intOf i).toNat)
      case atStart => exact ⟨0, by omega, rfl, fun i hi => by omega, by go_grown⟩
      case round =>
        obtain ⟨w3, rfl⟩ : ∃ x : World, x = wr := ⟨_, rfl⟩
        obtain ⟨j, hj, rfl, hq, hB⟩ := hrel
        by_cases hjn : j < n
        · obtain ⟨b1, f1, rfl, hbl1, hcl1⟩ := HEL.out j hjn
          have c0 : w3.cell? ⟨b1, f1 + j * 4, none⟩ = some (.int .i64 (T j).A) := (hB.cell (p := ⟨_, _, none⟩) hbl1).trans (hcl1 j hjn).1
          have c1 : w3.cell? ⟨b1, f1 + j * 4 + 1, none⟩ = some (.int .i64 (T j).B) := (hB.cell (p := ⟨_, _, none⟩) hbl1).trans (hcl1 j hjn).2.1
          have c2 : w3.cell? ⟨b1, f1 + j * 4 + 2, none⟩ = some (.int .i64 (T j).L) := (hB.cell (p := ⟨_, _, none⟩) hbl1).trans (hcl1 j hjn).2.2.1
          have c3 : w3.cell? ⟨b1, f1 + j * 4 + 3, none⟩ = some (.int .i64 (T j).S) := (hB.cell (p := ⟨_, _, none⟩) hbl1).trans (hcl1 j hjn).2.2.2
          obtain ⟨⟨ta, tb, tl, tsp⟩, htj⟩ : ∃ t, T j = t := ⟨_, rfl⟩
          rw [htj] at c0 c1 c2 c3
          dsimp only at c0 c1 c2 c3
          have HTJ := Lib.hid htj
          have hbr1 : b1 < w3.heap.size := by have := hB.size; omega
          have hz0 : w.heap.size ≤ w3.heap.size := hB.size
          have k0 : (0 : Int) ≤ (j : Int) := by omega
          have k1 : (j : Int) < (n : Int) := by omega
          clear hcl1 htj
          go_wp2_with fail
          (go_at_call 28; refine (in_any ta 0 255 _).mono ?_; rintro e_ w4 ⟨rfl, hb⟩)
          have hsw4 := hb.size
          (try simp only [World.size_alloc, World.size_setCell] at hsw4)
          have zzw4 : w.heap.size < w4.heap.size := by omega
          have hPw4 : Below w3.heap.size w3 w4 := below_step (w := w3) (by first | exact Below.refl _ _ | go_grown) hb
          have ztw4 : w3.heap.size < w4.heap.size := by omega
          have t0w4 : w4.cell? ⟨w3.heap.size, 0, none⟩ = some (.int .i64 ta) := (hb.cell (p := ⟨_, _, none⟩) (by simp <;> omega)).trans (by simp [go_sem])
          have t1w4 : w4.cell? ⟨w3.heap.size, 1, none⟩ = some (.int .i64 tb) := (hb.cell (p := ⟨_, _, none⟩) (by simp <;> omega)).trans (by simp [go_sem])
          have t2w4 : w4.cell? ⟨w3.heap.size, 2, none⟩ = some (.int .i64 tl) := (hb.cell (p := ⟨_, _, none⟩) (by simp <;> omega)).trans (by simp [go_sem])
          have t3w4 : w4.cell? ⟨w3.heap.size, 3, none⟩ = some (.int .i64 tsp) := (hb.cell (p := ⟨_, _, none⟩) (by simp <;> omega)).trans (by simp [go_sem])
          have hBw4 : Below w.heap.size w w4 := below_step (w := w) (by first | assumption | go_grown) hb
          clear hb hsw4 hPw4
          cases k0ta : inB ta 0 255
          · have hr : R = 9 := by
              have e : trE (T j) = 9 := by rw [HTJ.out]; unfold trE; exact if_pos (by simp [k0ta])
              rw [HNO1.out j hjn hq.out (by rw [e]; decide), e]
            have HR0 := Lib.hid hr
            clear hr
            go_wp2
            go_returns
            rw [HR0.out]
            exact ⟨rfl, hBw4⟩
          · go_wp2_with fail
            (go_at_call 28; refine (in_any tb 0 255 _).mono ?_; rintro e_ w5 ⟨rfl, hb⟩)
            have hsw5 := hb.size
            (try simp only [World.size_alloc, World.size_setCell] at hsw5)
            have zzw5 : w.heap.size < w5.heap.size := by omega
            have hPw5 : Below w4.heap.size w4 w5 := below_step (w := w4) (by first | exact Below.refl _ _ | go_grown) hb
            have ztw5 : w3.heap.size < w5.heap.size := by omega
            have t0w5 : w5.cell? ⟨w3.heap.size, 0, none⟩ = some (.int .i64 ta) := (hPw5.cell (p := ⟨_, _, none⟩) ztw4).trans t0w4
            have t1w5 : w5.cell? ⟨w3.heap.size, 1, none⟩ = some (.int .i64 tb) := (hPw5.cell (p := ⟨_, _, none⟩) ztw4).trans t1w4
            have t2w5 : w5.cell? ⟨w3.heap.size, 2, none⟩ = some (.int .i64 tl) := (hPw5.cell (p := ⟨_, _, none⟩) ztw4).trans t2w4
            have t3w5 : w5.cell? ⟨w3.heap.size, 3, none⟩ = some (.int .i64 tsp) := (hPw5.cell (p := ⟨_, _, none⟩) ztw4).trans t3w4
            have hBw5 : Below w.heap.size w w5 := below_step (w := w) (by first | assumption | go_grown) hb
            clear hb hsw5 hPw5
            clear ztw4 t0w4 t1w4 t2w4 t3w4
            cases k1tb : inB tb 0 255
            · have hr : R = 9 := by
                have e : trE (T j) = 9 := by rw [HTJ.out]; unfold trE; exact if_pos (by simp [k1tb])
                rw [HNO1.out j hjn hq.out (by rw [e]; decide), e]
              have HR0 := Lib.hid hr
              clear hr
              go_wp2
              go_returns
              rw [HR0.out]
              exact ⟨rfl, hBw5⟩
            · go_wp2_with fail
              (go_at_call 28; refine (in_any tl 1 1000000 _).mono ?_; rintro e_ w6 ⟨rfl, hb⟩)
              have hsw6 := hb.size
              (try simp only [World.size_alloc, World.size_setCell] at hsw6)
              have zzw6 : w.heap.size < w6.heap.size := by omega
              have hPw6 : Below w5.heap.size w5 w6 := below_step (w := w5) (by first | exact Below.refl _ _ | go_grown) hb
              have ztw6 : w3.heap.size < w6.heap.size := by omega
              have t0w6 : w6.cell? ⟨w3.heap.size, 0, none⟩ = some (.int .i64 ta) := (hPw6.cell (p := ⟨_, _, none⟩) ztw5).trans t0w5
              have t1w6 : w6.cell? ⟨w3.heap.size, 1, none⟩ = some (.int .i64 tb) := (hPw6.cell (p := ⟨_, _, none⟩) ztw5).trans t1w5
              have t2w6 : w6.cell? ⟨w3.heap.size, 2, none⟩ = some (.int .i64 tl) := (hPw6.cell (p := ⟨_, _, none⟩) ztw5).trans t2w5
              have t3w6 : w6.cell? ⟨w3.heap.size, 3, none⟩ = some (.int .i64 tsp) := (hPw6.cell (p := ⟨_, _, none⟩) ztw5).trans t3w5
              have hBw6 : Below w.heap.size w w6 := below_step (w := w) (by first | assumption | go_grown) hb
              clear hb hsw6 hPw6
              clear ztw5 t0w5 t1w5 t2w5 t3w5
              cases k2tl : inB tl 1 1000000
              · have hr : R = 9 := by
                  have e : trE (T j) = 9 := by rw [HTJ.out]; unfold trE; exact if_pos (by simp [k2tl])
                  rw [HNO1.out j hjn hq.out (by rw [e]; decide), e]
                have HR0 := Lib.hid hr
                clear hr
                go_wp2
                go_returns
                rw [HR0.out]
                exact ⟨rfl, hBw6⟩
              · go_wp2_with fail
                (go_at_call 28; refine (in_any tsp 0 1000000 _).mono ?_; rintro e_ w7 ⟨rfl, hb⟩)
                have hsw7 := hb.size
                (try simp only [World.size_alloc, World.size_setCell] at hsw7)
                have zzw7 : w.heap.size < w7.heap.size := by omega
                have hPw7 : Below w6.heap.size w6 w7 := below_step (w := w6) (by first | exact Below.refl _ _ | go_grown) hb
                have ztw7 : w3.heap.size < w7.heap.size := by omega
                have t0w7 : w7.cell? ⟨w3.heap.size, 0, none⟩ = some (.int .i64 ta) := (hPw7.cell (p := ⟨_, _, none⟩) ztw6).trans t0w6
                have t1w7 : w7.cell? ⟨w3.heap.size, 1, none⟩ = some (.int .i64 tb) := (hPw7.cell (p := ⟨_, _, none⟩) ztw6).trans t1w6
                have t2w7 : w7.cell? ⟨w3.heap.size, 2, none⟩ = some (.int .i64 tl) := (hPw7.cell (p := ⟨_, _, none⟩) ztw6).trans t2w6
                have t3w7 : w7.cell? ⟨w3.heap.size, 3, none⟩ = some (.int .i64 tsp) := (hPw7.cell (p := ⟨_, _, none⟩) ztw6).trans t3w6
                have hBw7 : Below w.heap.size w w7 := below_step (w := w) (by first | assumption | go_grown) hb
                clear hb hsw7 hPw7
                clear ztw6 t0w6 t1w6 t2w6 t3w6
                cases k3tsp : inB tsp 0 1000000
                · have hr : R = 9 := by
                    have e : trE (T j) = 9 := by rw [HTJ.out]; unfold trE; exact if_pos (by simp [k3tsp])
                    rw [HNO1.out j hjn hq.out (by rw [e]; decide), e]
                  have HR0 := Lib.hid hr
                  clear hr
                  go_wp2
                  go_returns
                  rw [HR0.out]
                  exact ⟨rfl, hBw7⟩
                · by_cases hab : ta = tb
                  · have e9 : trE (T j) = 2 := by
                      rw [HTJ.out]
                      unfold trE
                      rw [if_neg (by simp [k0ta, k1tb, k2tl, k3tsp])]
                      exact if_pos hab
                    subst hab
                    have hr : R = 2 := by
                      have e : trE (T j) = 2 := by exact e9
                      rw [HNO1.out j hjn hq.out (by rw [e]; decide), e]
                    have HR0 := Lib.hid hr
                    clear hr
                    go_wp2
                    go_returns
                    rw [HR0.out]
                    exact ⟨rfl, hBw7⟩
                  · have hq2 : Hid (∀ i, i < j + 1 → trE (T i) = 0) := fun i hi => by
                      by_cases e : i = j
                      · subst e
                        rw [HTJ.out]
                        unfold trE
                        rw [if_neg (by simp [k0ta, k1tb, k2tl, k3tsp])]
                        exact if_neg hab
                      · exact hq.out i (by omega)
                    have kab : (ta == tb) = false := by simpa using hab
                    have HBZ := Lib.hid hBw7
                    clear hab
                    go_wp2
                    go_roundw
                    case rel => exact ⟨j + 1, by omega, by go_num, hq2, HBZ.out⟩
                    case measure => simp [intOf]; omega
        · obtain rfl : j = n := by omega
          have HQ1 := hq
          have HNO2 : Hid (∀ j, j < m → (∀ i, i < j → cbE C i = 0) → cbE C j ≠ 0 → R = cbE C j) := fun q h1 h2 h3 => by rw [← HRB.out (fun i hi => HQ1.out i hi), firstE_hit h2 h3 h1]
          clear hq hjn hj
          go_wp2
          go_loopw [7] (fun i wr => ∃ (j : Nat), j ≤ m ∧ i = .int .i64 j ∧ Hid (∀ i, i < j → cbE C i = 0) ∧ Below w.heap.size w wr) (fun i _ => m - (intOf i).toNat)
          case atStart => exact ⟨0, by omega, rfl, fun i hi => (by omega), hB⟩
          case round =>
            obtain ⟨w4, rfl⟩ : ∃ x : World, x = wr := ⟨_, rfl⟩
            obtain ⟨j, hj, rfl, hq, hB⟩ := hrel
            by_cases hjn : j < m
            · obtain ⟨b1, f1, rfl, hbl1, hcl1⟩ := HCL.out j hjn
              have c0 : w4.cell? ⟨b1, f1 + j * 4, none⟩ = some (.string (C j).id) := (hB.cell (p := ⟨_, _, none⟩) hbl1).trans (hcl1 j hjn).1
              have c1 : w4.cell? ⟨b1, f1 + j * 4 + 1, none⟩ = some (.int .i64 (C j).fr) := (hB.cell (p := ⟨_, _, none⟩) hbl1).trans (hcl1 j hjn).2.1
              have c2 : w4.cell? ⟨b1, f1 + j * 4 + 2, none⟩ = some (.int .i64 (C j).to) := (hB.cell (p := ⟨_, _, none⟩) hbl1).trans (hcl1 j hjn).2.2.1
              have c3 : w4.cell? ⟨b1, f1 + j * 4 + 3, none⟩ = some (.int .i64 (C j).sz) := (hB.cell (p := ⟨_, _, none⟩) hbl1).trans (hcl1 j hjn).2.2.2
              have hsz0 := HSZ.out j hjn
              obtain ⟨⟨ci, cf, ct, cs⟩, hcj⟩ : ∃ c, C j = c := ⟨_, rfl⟩
              rw [hcj] at c0 c1 c2 c3 hsz0
              dsimp only at c0 c1 c2 c3 hsz0
              have hsz : ci.size ≤ 2147483648 := by omega
              have HCJ := Lib.hid hcj
              have HCL1 := Lib.hid hcl1
              have hbr1 : b1 < w4.heap.size := by have := hB.size; omega
              have hz0 : w.heap.size ≤ w4.heap.size := hB.size
              have k0 : (0 : Int) ≤ (j : Int) := by omega
              have k1 : (j : Int) < (m : Int) := by omega
              clear hcl1 hcj
              go_wp2_with fail
              (go_at_call 31; refine (rIsId_any ci _ (by omega)).mono ?_; rintro e_ w5 ⟨rfl, hb⟩)
              have hsw5 := hb.size
              (try simp only [World.size_alloc, World.size_setCell] at hsw5)
              have zzw5 : w.heap.size < w5.heap.size := by omega
              have hPw5 : Below w4.heap.size w4 w5 := below_step (w := w4) (by first | exact Below.refl _ _ | go_grown) hb
              have ztw5 : w4.heap.size < w5.heap.size := by omega
              have t0w5 : w5.cell? ⟨w4.heap.size, 0, none⟩ = some (.string ci) := (hb.cell (p := ⟨_, _, none⟩) (by simp <;> omega)).trans (by simp [go_sem])
              have t1w5 : w5.cell? ⟨w4.heap.size, 1, none⟩ = some (.int .i64 cf) := (hb.cell (p := ⟨_, _, none⟩) (by simp <;> omega)).trans (by simp [go_sem])
              have t2w5 : w5.cell? ⟨w4.heap.size, 2, none⟩ = some (.int .i64 ct) := (hb.cell (p := ⟨_, _, none⟩) (by simp <;> omega)).trans (by simp [go_sem])
              have t3w5 : w5.cell? ⟨w4.heap.size, 3, none⟩ = some (.int .i64 cs) := (hb.cell (p := ⟨_, _, none⟩) (by simp <;> omega)).trans (by simp [go_sem])
              have hBw5 : Below w.heap.size w w5 := below_step (w := w) (by first | assumption | go_grown) hb
              clear hb hsw5 hPw5
              cases hid1 : idB ci
              · have hr : R = 6 := by
                  have e : cbE C j = 6 := by unfold cbE; rw [HCJ.out, if_pos hid1]
                  rw [HNO2.out j hjn hq.out (by rw [e]; decide), e]
                have HR0 := Lib.hid hr
                clear hr
                go_wp2
                go_returns
                rw [HR0.out]
                exact ⟨rfl, hBw5⟩
              · go_wp2_with fail
                (go_at_call 28; refine (in_any cf 0 255 _).mono ?_; rintro e_ w6 ⟨rfl, hb⟩)
                have hsw6 := hb.size
                (try simp only [World.size_alloc, World.size_setCell] at hsw6)
                have zzw6 : w.heap.size < w6.heap.size := by omega
                have hPw6 : Below w5.heap.size w5 w6 := below_step (w := w5) (by first | exact Below.refl _ _ | go_grown) hb
                have ztw6 : w4.heap.size < w6.heap.size := by omega
                have t0w6 : w6.cell? ⟨w4.heap.size, 0, none⟩ = some (.string ci) := (hPw6.cell (p := ⟨_, _, none⟩) ztw5).trans t0w5
                have t1w6 : w6.cell? ⟨w4.heap.size, 1, none⟩ = some (.int .i64 cf) := (hPw6.cell (p := ⟨_, _, none⟩) ztw5).trans t1w5
                have t2w6 : w6.cell? ⟨w4.heap.size, 2, none⟩ = some (.int .i64 ct) := (hPw6.cell (p := ⟨_, _, none⟩) ztw5).trans t2w5
                have t3w6 : w6.cell? ⟨w4.heap.size, 3, none⟩ = some (.int .i64 cs) := (hPw6.cell (p := ⟨_, _, none⟩) ztw5).trans t3w5
                have hBw6 : Below w.heap.size w w6 := below_step (w := w) (by first | assumption | go_grown) hb
                clear hb hsw6 hPw6
                clear ztw5 t0w5 t1w5 t2w5 t3w5
                cases k0cf : inB cf 0 255
                · have hr : R = 9 := by
                    have e : cbE C j = 9 := by unfold cbE; rw [HCJ.out, if_neg (by rw [hid1]; decide)]; exact if_pos (by simp [k0cf])
                    rw [HNO2.out j hjn hq.out (by rw [e]; decide), e]
                  have HR0 := Lib.hid hr
                  clear hr
                  go_wp2
                  go_returns
                  rw [HR0.out]
                  exact ⟨rfl, hBw6⟩
                · go_wp2_with fail
                  (go_at_call 28; refine (in_any ct 0 255 _).mono ?_; rintro e_ w7 ⟨rfl, hb⟩)
                  have hsw7 := hb.size
                  (try simp only [World.size_alloc, World.size_setCell] at hsw7)
                  have zzw7 : w.heap.size < w7.heap.size := by omega
                  have hPw7 : Below w6.heap.size w6 w7 := below_step (w := w6) (by first | exact Below.refl _ _ | go_grown) hb
                  have ztw7 : w4.heap.size < w7.heap.size := by omega
                  have t0w7 : w7.cell? ⟨w4.heap.size, 0, none⟩ = some (.string ci) := (hPw7.cell (p := ⟨_, _, none⟩) ztw6).trans t0w6
                  have t1w7 : w7.cell? ⟨w4.heap.size, 1, none⟩ = some (.int .i64 cf) := (hPw7.cell (p := ⟨_, _, none⟩) ztw6).trans t1w6
                  have t2w7 : w7.cell? ⟨w4.heap.size, 2, none⟩ = some (.int .i64 ct) := (hPw7.cell (p := ⟨_, _, none⟩) ztw6).trans t2w6
                  have t3w7 : w7.cell? ⟨w4.heap.size, 3, none⟩ = some (.int .i64 cs) := (hPw7.cell (p := ⟨_, _, none⟩) ztw6).trans t3w6
                  have hBw7 : Below w.heap.size w w7 := below_step (w := w) (by first | assumption | go_grown) hb
                  clear hb hsw7 hPw7
                  clear ztw6 t0w6 t1w6 t2w6 t3w6
                  cases k1ct : inB ct 0 255
                  · have hr : R = 9 := by
                      have e : cbE C j = 9 := by unfold cbE; rw [HCJ.out, if_neg (by rw [hid1]; decide)]; exact if_pos (by simp [k1ct])
                      rw [HNO2.out j hjn hq.out (by rw [e]; decide), e]
                    have HR0 := Lib.hid hr
                    clear hr
                    go_wp2
                    go_returns
                    rw [HR0.out]
                    exact ⟨rfl, hBw7⟩
                  · go_wp2_with fail
                    (go_at_call 28; refine (in_any cs 1 1000000 _).mono ?_; rintro e_ w8 ⟨rfl, hb⟩)
                    have hsw8 := hb.size
                    (try simp only [World.size_alloc, World.size_setCell] at hsw8)
                    have zzw8 : w.heap.size < w8.heap.size := by omega
                    have hPw8 : Below w7.heap.size w7 w8 := below_step (w := w7) (by first | exact Below.refl _ _ | go_grown) hb
                    have ztw8 : w4.heap.size < w8.heap.size := by omega
                    have t0w8 : w8.cell? ⟨w4.heap.size, 0, none⟩ = some (.string ci) := (hPw8.cell (p := ⟨_, _, none⟩) ztw7).trans t0w7
                    have t1w8 : w8.cell? ⟨w4.heap.size, 1, none⟩ = some (.int .i64 cf) := (hPw8.cell (p := ⟨_, _, none⟩) ztw7).trans t1w7
                    have t2w8 : w8.cell? ⟨w4.heap.size, 2, none⟩ = some (.int .i64 ct) := (hPw8.cell (p := ⟨_, _, none⟩) ztw7).trans t2w7
                    have t3w8 : w8.cell? ⟨w4.heap.size, 3, none⟩ = some (.int .i64 cs) := (hPw8.cell (p := ⟨_, _, none⟩) ztw7).trans t3w7
                    have hBw8 : Below w.heap.size w w8 := below_step (w := w) (by first | assumption | go_grown) hb
                    clear hb hsw8 hPw8
                    clear ztw7 t0w7 t1w7 t2w7 t3w7
                    cases k2cs : inB cs 1 1000000
                    · have hr : R = 9 := by
                        have e : cbE C j = 9 := by unfold cbE; rw [HCJ.out, if_neg (by rw [hid1]; decide)]; exact if_pos (by simp [k2cs])
                        rw [HNO2.out j hjn hq.out (by rw [e]; decide), e]
                      have HR0 := Lib.hid hr
                      clear hr
                      go_wp2
                      go_returns
                      rw [HR0.out]
                      exact ⟨rfl, hBw8⟩
                    · by_cases hab : cf = ct
                      · have e9 : cbE C j = 2 := by
                          unfold cbE
                          rw [HCJ.out, if_neg (by rw [hid1]; decide), if_neg (by simp [k0cf, k1ct, k2cs])]
                          exact if_pos hab
                        subst hab
                        have hr : R = 2 := by
                          have e : cbE C j = 2 := by exact e9
                          rw [HNO2.out j hjn hq.out (by rw [e]; decide), e]
                        have HR0 := Lib.hid hr
                        clear hr
                        go_wp2
                        go_returns
                        rw [HR0.out]
                        exact ⟨rfl, hBw8⟩
                      · have HCB : Hid (cbE C j = if ci.data.toList ∈ idsL C j then 7 else 0) := by
                          show _ = _
                          unfold cbE
                          rw [HCJ.out, if_neg (by rw [hid1]; decide), if_neg (by simp [k0cf, k1ct, k2cs])]
                          exact if_neg hab
                        have kab : (cf == ct) = false := by simpa using hab
                        have HBK := Lib.hid hBw8
                        clear hab
                        go_wp2
                        go_loopw [9] (fun i wr => ∃ k : Nat, k ≤ j ∧ i = .int .i64 k ∧ Hid (∀ q, q < k → (C q).id.data.toList ≠ ci.data.toList) ∧ Below w8.heap.size w8 wr) (fun i _ => j - (intOf i).toNat)
                        case atStart => exact ⟨0, by omega, rfl, fun q hq => by omega, Below.refl _ _⟩
                        case round =>
                          obtain ⟨wk, rfl⟩ : ∃ x : World, x = wr := ⟨_, rfl⟩
                          obtain ⟨k, hk, rfl, hqk, hBk⟩ := hrel
                          have hBwk := below_step HBK.out hBk
                          have t0k : wk.cell? ⟨w4.heap.size, 0, none⟩ = some (.string ci) := (hBk.cell (p := ⟨_, _, none⟩) ztw8).trans t0w8
                          have ztk : w4.heap.size < wk.heap.size := by have := hBk.size; omega
                          have HBWK := Lib.hid hBwk
                          by_cases hkj : k < j
                          · have hkn : k < m := by omega
                            have d0 : wk.cell? ⟨b1, f1 + k * 4, none⟩ = some (.string (C k).id) := (hBwk.cell (p := ⟨_, _, none⟩) hbl1).trans (HCL1.out k hkn).1
                            obtain ⟨ck, hck⟩ : ∃ x, (C k).id = x := ⟨_, rfl⟩
                            rw [hck] at d0
                            have hbr : b1 < wk.heap.size := by have := hBwk.size; omega
                            have k0 : (0 : Int) ≤ (k : Int) := by omega
                            have k1 : (k : Int) < (m : Int) := by omega
                            by_cases he : ck.data.toList = ci.data.toList
                            · have ke : (ck.toList == ci.toList) = true := by rw [ByteArray.toList_eq, ByteArray.toList_eq, he]; simp
                              have hr : R = 7 := by
                                have e : cbE C j = 7 := by rw [HCB.out]; exact if_pos (idsL_mem.2 ⟨k, hkj, by rw [hck]; exact he⟩)
                                rw [HNO2.out j hjn hq.out (by rw [e]; decide), e]
                              have HR0 := Lib.hid hr
                              clear hr he hck hBk hBwk
                              go_wp2_with fail
                              refine wp_region_relw 8 (by kernel_rfl) (by kernel_rfl) (by kernel_rfl) ?_
                              simp only [List.take_succ_cons, List.take_zero, fillL, Act.put, List.setIfInBounds_toArray, List.set_cons_zero, List.set_cons_succ]
                              iterate 8
                                apply rel_is
                                · intro u wx hb hd
                                  have hz := hb.size
                                  (try simp only [World.size_alloc, World.size_setCell] at hz)
                                  have hz0 : w4.heap.size < wx.heap.size := by omega
                                  have hz1 : b1 < wx.heap.size := by omega
                                  obtain ⟨hc, hf⟩ := bcell hb
                                  have HBX := Lib.hid hb
                                  clear hb hz
                                  simp [depsS, Region.binds, updS, Stay.is, Stay.any] at hd
                                  go_simp
                                  first | exact ⟨Below.refl _ _, rfl⟩ | rfl
                              intro u wy hb hE
                              have e0 : u 0 = _ := endS_get hE 0 (by decide)
                              have e1 : u 1 = _ := endS_get hE 1 (by decide)
                              have e2 : u 2 = _ := endS_get hE 2 (by decide)
                              have e3 : u 3 = _ := endS_get hE 3 (by decide)
                              have e4 : u 4 = _ := endS_get hE 4 (by decide)
                              have e5 : u 5 = _ := endS_get hE 5 (by decide)
                              have e6 : u 6 = _ := endS_get hE 6 (by decide)
                              have e7 : u 7 = _ := endS_get hE 7 (by decide)
                              simp only [List.drop_succ_cons, List.drop_zero, List.take_succ_cons, List.take_zero, fillL, Act.put, List.setIfInBounds_toArray, List.set_cons_zero, List.set_cons_succ, e0, e1, e2, e3, e4, e5, e6, e7]
                              clear e0 e1 e2 e3 e4 e5 e6 e7 hE
                              have HBwy := Lib.hid (below_step (w := wk) (by first | assumption | go_grown) hb)
                              have HBXwy := Lib.hid hb
                              have hzwy := hb.size
                              (try simp only [World.size_alloc, World.size_setCell] at hzwy)
                              have hzwy0 : w4.heap.size < wy.heap.size := by omega
                              have hzwy1 : b1 < wy.heap.size := by omega
                              obtain ⟨hcwy, hfwy⟩ := bcell hb
                              clear hb hzwy
                              go_wp2
                              go_returns
                              rw [HR0.out]
                              exact ⟨rfl, below_step HBWK.out HBXwy.out⟩
                            · have ke : (ck.toList == ci.toList) = false := by rw [ByteArray.toList_eq, ByteArray.toList_eq]; simpa using he
                              have hq3 : Hid (∀ q, q < k + 1 → (C q).id.data.toList ≠ ci.data.toList) := fun q hq' => by
                                by_cases e : q = k
                                · subst e; rw [hck]; exact he
                                · exact hqk.out q (by omega)
                              have HBK2 := Lib.hid hBk
                              clear he hck hBk hBwk
                              go_wp2_with fail
                              refine wp_region_relw 8 (by kernel_rfl) (by kernel_rfl) (by kernel_rfl) ?_
                              simp only [List.take_succ_cons, List.take_zero, fillL, Act.put, List.setIfInBounds_toArray, List.set_cons_zero, List.set_cons_succ]
                              iterate 8
                                apply rel_is
                                · intro u wx hb hd
                                  have hz := hb.size
                                  (try simp only [World.size_alloc, World.size_setCell] at hz)
                                  have hz0 : w4.heap.size < wx.heap.size := by omega
                                  have hz1 : b1 < wx.heap.size := by omega
                                  obtain ⟨hc, hf⟩ := bcell hb
                                  have HBX := Lib.hid hb
                                  clear hb hz
                                  simp [depsS, Region.binds, updS, Stay.is, Stay.any] at hd
                                  go_simp
                                  first | exact ⟨Below.refl _ _, rfl⟩ | rfl
                              intro u wy hb hE
                              have e0 : u 0 = _ := endS_get hE 0 (by decide)
                              have e1 : u 1 = _ := endS_get hE 1 (by decide)
                              have e2 : u 2 = _ := endS_get hE 2 (by decide)
                              have e3 : u 3 = _ := endS_get hE 3 (by decide)
                              have e4 : u 4 = _ := endS_get hE 4 (by decide)
                              have e5 : u 5 = _ := endS_get hE 5 (by decide)
                              have e6 : u 6 = _ := endS_get hE 6 (by decide)
                              have e7 : u 7 = _ := endS_get hE 7 (by decide)
                              simp only [List.drop_succ_cons, List.drop_zero, List.take_succ_cons, List.take_zero, fillL, Act.put, List.setIfInBounds_toArray, List.set_cons_zero, List.set_cons_succ, e0, e1, e2, e3, e4, e5, e6, e7]
                              clear e0 e1 e2 e3 e4 e5 e6 e7 hE
                              have HBwy := Lib.hid (below_step (w := wk) (by first | assumption | go_grown) hb)
                              have HBXwy := Lib.hid hb
                              have hzwy := hb.size
                              (try simp only [World.size_alloc, World.size_setCell] at hzwy)
                              have hzwy0 : w4.heap.size < wy.heap.size := by omega
                              have hzwy1 : b1 < wy.heap.size := by omega
                              obtain ⟨hcwy, hfwy⟩ := bcell hb
                              clear hb hzwy
                              have HBK3 := Lib.hid (below_step HBK2.out HBXwy.out)
                              go_wp2
                              go_roundw
                              case rel => exact ⟨k + 1, by omega, by go_num, hq3, HBK3.out⟩
                              case measure => simp [intOf]; omega
                          · have hmem : ci.data.toList ∉ idsL C j := fun h => by
                              obtain ⟨q, h1, h2⟩ := idsL_mem.1 h
                              exact hqk.out q (by omega) h2
                            have hq2 : Hid (∀ i, i < j + 1 → cbE C i = 0) := fun i hi => by
                              by_cases e : i = j
                              · subst e
                                rw [HCB.out]
                                exact if_neg hmem
                              · exact hq.out i (by omega)
                            clear hmem hBk hBwk
                            go_wp2
                            go_roundw
                            case rel => exact ⟨j + 1, by omega, by go_num, hq2, HBWK.out⟩
                            case measure => simp [intOf]; omega
            · obtain rfl : j = m := by omega
              have hr : R = 0 := by rw [← HRB.out (fun i hi => HQ1.out i hi), firstE_all hq.out]
              have HR0 := Lib.hid hr
              clear hr
              go_wp2
              go_returns
              rw [HR0.out]
              exact ⟨rfl, hB⟩
end Go.Proofs.YtpkgadjglidnaaaDoor
