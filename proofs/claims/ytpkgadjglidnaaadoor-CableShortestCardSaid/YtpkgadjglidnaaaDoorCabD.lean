/-
  cable.Check, by a walk. Conditions: as stated. By an AI agent.
-/
import Derived.Test.YtpkgadjglidnaaaDoorCabA
import Derived.Test.YtpkgadjglidnaaaDoorMapS
import Derived.Test.YtpkgadjglidnaaaDoorIdB
namespace Go.Proofs.YtpkgadjglidnaaaDoor
open Go Go.ChangeShapes Go.WideShapes Go.RowKit Go.ChangeAt
set_option linter.unusedVariables false
set_option linter.unusedSimpArgs false

def trE (t : Tr) : Int := if inB t.A 0 255 = false ∨ inB t.B 0 255 = false ∨ inB t.L 1 1000000 = false ∨ inB t.S 0 1000000 = false then 9 else if t.A = t.B then 2 else 0
def idsL (C : Nat → Cb) (j : Nat) : List (List UInt8) := (List.range j).map fun k => (C k).id.data.toList
theorem idsL_succ (C : Nat → Cb) (j : Nat) : idsL C (j + 1) = idsL C j ++ [(C j).id.data.toList] := by simp [idsL, List.range_succ]
theorem idsL_mem {C : Nat → Cb} {j : Nat} {x : List UInt8} : x ∈ idsL C j ↔ ∃ k, k < j ∧ (C k).id.data.toList = x := by simp [idsL]
def cbE (C : Nat → Cb) (i : Nat) : Int := if idB (C i).id = false then 6 else if inB (C i).fr 0 255 = false ∨ inB (C i).to 0 255 = false ∨ inB (C i).sz 1 1000000 = false then 9 else if (C i).fr = (C i).to then 2 else if (C i).id.data.toList ∈ idsL C i then 7 else 0
/-- the first error -/
def firstE (f : Nat → Int) : Nat → Int
  | 0 => 0
  | n + 1 => if firstE f n ≠ 0 then firstE f n else f n
theorem firstE_all {f : Nat → Int} : ∀ {n : Nat}, (∀ i, i < n → f i = 0) → firstE f n = 0
  | 0, _ => rfl
  | n + 1, h => by
    unfold firstE
    rw [firstE_all (n := n) fun i hi => h i (by omega), if_neg (by decide), h n (by omega)]
theorem firstE_hit {f : Nat → Int} {j : Nat} (h : ∀ i, i < j → f i = 0) (h0 : f j ≠ 0) : ∀ {n : Nat}, j < n → firstE f n = f j
  | 0, hn => by omega
  | n + 1, hn => by
    unfold firstE
    by_cases e : j = n
    · subst e
      rw [firstE_all h, if_neg (by decide)]
    · rw [firstE_hit h h0 (n := n) (by omega), if_pos h0]
theorem firstE_zero {f : Nat → Int} : ∀ {n : Nat}, firstE f n = 0 → ∀ i, i < n → f i = 0
  | 0, _, i, hi => by omega
  | n + 1, h, i, hi => by
    unfold firstE at h
    by_cases e : firstE f n = 0
    · rw [if_neg (by simpa using e)] at h
      by_cases e2 : i = n
      · subst e2; exact h
      · exact firstE_zero e i (by omega)
    · rw [if_pos e] at h
      exact absurd h e
def checkF (n : Nat) (T : Nat → Tr) (m : Nat) (C : Nat → Cb) : Int := if 64 < n ∨ 64 < m then 4 else if firstE (fun i => trE (T i)) n ≠ 0 then firstE (fun i => trE (T i)) n else firstE (cbE C) m
theorem trE_ok {t : Tr} (h : trE t = 0) : t.ok := by
  unfold trE at h
  split at h
  · omega
  · rename_i h1
    split at h
    · omega
    · rename_i h2
      simp only [not_or, Bool.not_eq_false] at h1
      obtain ⟨a, b, c, d⟩ := h1
      have := inB_true a
      have := inB_true b
      have := inB_true c
      have := inB_true d
      exact ⟨by omega, by omega, by omega, by omega, by omega, by omega, by omega, by omega, h2⟩
structure CbOk (C : Nat → Cb) (i : Nat) : Prop where
  id : idB (C i).id = true
  fr : 0 ≤ (C i).fr ∧ (C i).fr ≤ 255
  to : 0 ≤ (C i).to ∧ (C i).to ≤ 255
  sz : 1 ≤ (C i).sz ∧ (C i).sz ≤ 1000000
  ne : (C i).fr ≠ (C i).to
theorem cbE_ok {C : Nat → Cb} {i : Nat} (h : cbE C i = 0) : CbOk C i := by
  unfold cbE at h
  split at h
  · omega
  · rename_i h0
    split at h
    · omega
    · rename_i h1
      split at h
      · omega
      · rename_i h2
        simp only [not_or, Bool.not_eq_false] at h1
        obtain ⟨a, b, c⟩ := h1
        exact ⟨by simpa using h0, inB_true a, inB_true b, inB_true c, h2⟩
theorem checkF_ok {n m : Nat} {T : Nat → Tr} {C : Nat → Cb} (h : checkF n T m C = 0) : n ≤ 64 ∧ m ≤ 64 ∧ (∀ i, i < n → (T i).ok) ∧ ∀ i, i < m → CbOk C i := by
  unfold checkF at h
  split at h
  · omega
  · rename_i h0
    split at h
    · rename_i h1
      exact absurd h h1
    · rename_i h1
      have h1 : firstE (fun i => trE (T i)) n = 0 := by simpa using h1
      exact ⟨by omega, by omega, fun i hi => trE_ok (firstE_zero h1 i hi), fun i hi => cbE_ok (firstE_zero h i hi)⟩

set_option maxHeartbeats 8000000 in
set_option maxRecDepth 20000 in
theorem check_any (v c : Value) (n m : Nat) (T : Nat → Tr) (C : Nat → Cb) (w : World) (h : TraysAt w v n T) (h' : CabsAt w c m C) (hs : ∀ i, i < m → (C i).id.size ≤ 200) (hml : MaxLenIs w) :
    Calls Tryd.prog 14 #[v, c] w fun e w' => e = .returned (.int .i64 (checkF n T m C)) ∧ Below w.heap.size w w' := by
  have hmm := @run_makeMap Tryd.prog
  have HML := Lib.hid hml
  obtain ⟨oa, ca, rfl, hn, hel⟩ := h.form
  obtain ⟨ob, cb, rfl, hn', hub⟩ := h'.form
  have HEL := Lib.hid hel
  have HCL := Lib.hid hub
  have HSZ := Lib.hid hs
  obtain ⟨R, hR⟩ : ∃ R, checkF n T m C = R := ⟨_, rfl⟩
  rw [hR]
  have HR := Lib.hid hR
  clear h h' hel hub hs hR hml
  by_cases hn64 : 64 < n
  · have kn : decide ((64 : Int) < (n : Int)) = true := decide_eq_true (by omega)
    have HR0 : Hid (R = 4) := by show _ = _; rw [← HR.out]; exact if_pos (.inl hn64)
    go_enter Tryd.func14, Tryd.ntmps14
    go_wp2
    go_returns
    rw [HR0.out]
    exact ⟨rfl, Below.refl _ _⟩
  · by_cases hm64 : 64 < m
    · have kn : decide ((64 : Int) < (n : Int)) = false := decide_eq_false (by omega)
      have km : decide ((64 : Int) < (m : Int)) = true := decide_eq_true (by omega)
      have HR0 : Hid (R = 4) := by show _ = _; rw [← HR.out]; exact if_pos (.inr hm64)
      go_enter Tryd.func14, Tryd.ntmps14
      go_wp2
      go_returns
      rw [HR0.out]
      exact ⟨rfl, Below.refl _ _⟩
    · have kn : decide ((64 : Int) < (n : Int)) = false := decide_eq_false (by omega)
      have km : decide ((64 : Int) < (m : Int)) = false := decide_eq_false (by omega)
      have HNO1 : Hid (∀ j, j < n → (∀ i, i < j → trE (T i) = 0) → trE (T j) ≠ 0 → R = trE (T j)) := fun q h1 h2 h3 => by
        have e := firstE_hit (f := fun i => trE (T i)) h2 h3 h1
        rw [← HR.out]
        unfold checkF
        rw [if_neg (by omega), e]
        exact if_pos h3
      have HRB : Hid ((∀ i, i < n → trE (T i) = 0) → firstE (cbE C) m = R) := fun h => by
        rw [← HR.out]
        unfold checkF
        rw [if_neg (by omega), firstE_all (f := fun i => trE (T i)) h]
        rfl
      clear hn64 hm64
      go_enter Tryd.func14, Tryd.ntmps14
      go_wp2
      go_loopw [20] (fun i wr => ∃ j : Nat, j ≤ n ∧ i = .int .i64 j ∧ Hid (∀ i, i < j → trE (T i) = 0) ∧ Below w.heap.size w wr) (fun i _ => n - (intOf i).toNat)
      case atStart => exact ⟨0, by omega, rfl, fun i hi => by omega, by go_grown⟩
      case round =>
        obtain ⟨w3, rfl⟩ : ∃ x : World, x = wr := ⟨_, rfl⟩
        obtain ⟨j, hj, rfl, hq, hB⟩ := hrel
        by_cases hjn : j < n
        · obtain ⟨b1, f1, rfl, hbl1, hcl1⟩ := HEL.out j hjn
          have c0 : w3.cell? ⟨b1, f1 + j * 4, none⟩ = some (.int .i64 (T j).A) := (hB.cell (p := ⟨_, _, none⟩) hbl1).trans (hcl1 j hjn).1
          have c1 : w3.cell? ⟨b1, f1 + j * 4 + 1, none⟩ = some (.int .i64 (T j).B) := (hB.cell (p := ⟨_, _, none⟩) hbl1).trans (hcl1 j hjn).2.1
          have c2 : w3.cell? ⟨b1, f1 + j * 4 + 2, none⟩ = some (.int .i64 (T j).L) := (hB.cell (p := ⟨_, _, none⟩) hbl1).trans (hcl1 j hjn).2.2.1
          have c3 : w3.cell? ⟨b1, f1 + j * 4 + 3, none⟩ = some (.int .i64 (T j).S) := (hB.cell (p := ⟨_, _, none⟩) hbl1).trans (hcl1 j hjn).2.2.2
          obtain ⟨⟨ta, tb, tl, tsp⟩, htj⟩ : ∃ t, T j = t := ⟨_, rfl⟩
          rw [htj] at c0 c1 c2 c3
          dsimp only at c0 c1 c2 c3
          have HTJ := Lib.hid htj
          have hbr1 : b1 < w3.heap.size := by have := hB.size; omega
          have hz0 : w.heap.size ≤ w3.heap.size := hB.size
          have k0 : (0 : Int) ≤ (j : Int) := by omega
          have k1 : (j : Int) < (n : Int) := by omega
          clear hcl1 htj
          go_wp2_with fail
          (go_at_call 29; refine (junction_any ta _).mono ?_; rintro e_ w4 ⟨rfl, hb⟩)
          have hsw4 := hb.size
          (try simp only [World.size_alloc, World.size_setCell] at hsw4)
          have zzw4 : w.heap.size < w4.heap.size := by omega
          have hPw4 : Below w3.heap.size w3 w4 := below_step (w := w3) (by first | exact Below.refl _ _ | go_grown) hb
          have ztw4 : w3.heap.size < w4.heap.size := by omega
          have t0w4 : w4.cell? ⟨w3.heap.size, 0, none⟩ = some (.int .i64 ta) := (hb.cell (p := ⟨_, _, none⟩) (by simp <;> omega)).trans (by simp [go_sem])
          have t1w4 : w4.cell? ⟨w3.heap.size, 1, none⟩ = some (.int .i64 tb) := (hb.cell (p := ⟨_, _, none⟩) (by simp <;> omega)).trans (by simp [go_sem])
          have t2w4 : w4.cell? ⟨w3.heap.size, 2, none⟩ = some (.int .i64 tl) := (hb.cell (p := ⟨_, _, none⟩) (by simp <;> omega)).trans (by simp [go_sem])
          have t3w4 : w4.cell? ⟨w3.heap.size, 3, none⟩ = some (.int .i64 tsp) := (hb.cell (p := ⟨_, _, none⟩) (by simp <;> omega)).trans (by simp [go_sem])
          have hBw4 : Below w.heap.size w w4 := below_step (w := w) (by first | assumption | go_grown) hb
          clear hb hsw4 hPw4
          cases k0ta : inB ta 0 255
          · have hr : R = 9 := by
              have e : trE (T j) = 9 := by rw [HTJ.out]; unfold trE; exact if_pos (by simp [k0ta])
              rw [HNO1.out j hjn hq.out (by rw [e]; decide), e]
            have HR0 := Lib.hid hr
            clear hr
            go_wp2
            go_returns
            rw [HR0.out]
            exact ⟨rfl, hBw4⟩
          · go_wp2_with fail
            (go_at_call 29; refine (junction_any tb _).mono ?_; rintro e_ w5 ⟨rfl, hb⟩)
            have hsw5 := hb.size
            (try simp only [World.size_alloc, World.size_setCell] at hsw5)
            have zzw5 : w.heap.size < w5.heap.size := by omega
            have hPw5 : Below w4.heap.size w4 w5 := below_step (w := w4) (by first | exact Below.refl _ _ | go_grown) hb
            have ztw5 : w3.heap.size < w5.heap.size := by omega
            have t0w5 : w5.cell? ⟨w3.heap.size, 0, none⟩ = some (.int .i64 ta) := (hPw5.cell (p := ⟨_, _, none⟩) ztw4).trans t0w4
            have t1w5 : w5.cell? ⟨w3.heap.size, 1, none⟩ = some (.int .i64 tb) := (hPw5.cell (p := ⟨_, _, none⟩) ztw4).trans t1w4
            have t2w5 : w5.cell? ⟨w3.heap.size, 2, none⟩ = some (.int .i64 tl) := (hPw5.cell (p := ⟨_, _, none⟩) ztw4).trans t2w4
            have t3w5 : w5.cell? ⟨w3.heap.size, 3, none⟩ = some (.int .i64 tsp) := (hPw5.cell (p := ⟨_, _, none⟩) ztw4).trans t3w4
            have hBw5 : Below w.heap.size w w5 := below_step (w := w) (by first | assumption | go_grown) hb
            clear hb hsw5 hPw5
            clear ztw4 t0w4 t1w4 t2w4 t3w4
            cases k1tb : inB tb 0 255
            · have hr : R = 9 := by
                have e : trE (T j) = 9 := by rw [HTJ.out]; unfold trE; exact if_pos (by simp [k1tb])
                rw [HNO1.out j hjn hq.out (by rw [e]; decide), e]
              have HR0 := Lib.hid hr
              clear hr
              go_wp2
              go_returns
              rw [HR0.out]
              exact ⟨rfl, hBw5⟩
            · go_wp2_with fail
              (go_at_call 27; refine (from_any tl 1 1000000 _).mono ?_; rintro e_ w6 ⟨rfl, hb⟩)
              have hsw6 := hb.size
              (try simp only [World.size_alloc, World.size_setCell] at hsw6)
              have zzw6 : w.heap.size < w6.heap.size := by omega
              have hPw6 : Below w5.heap.size w5 w6 := below_step (w := w5) (by first | exact Below.refl _ _ | go_grown) hb
              have ztw6 : w3.heap.size < w6.heap.size := by omega
              have t0w6 : w6.cell? ⟨w3.heap.size, 0, none⟩ = some (.int .i64 ta) := (hPw6.cell (p := ⟨_, _, none⟩) ztw5).trans t0w5
              have t1w6 : w6.cell? ⟨w3.heap.size, 1, none⟩ = some (.int .i64 tb) := (hPw6.cell (p := ⟨_, _, none⟩) ztw5).trans t1w5
              have t2w6 : w6.cell? ⟨w3.heap.size, 2, none⟩ = some (.int .i64 tl) := (hPw6.cell (p := ⟨_, _, none⟩) ztw5).trans t2w5
              have t3w6 : w6.cell? ⟨w3.heap.size, 3, none⟩ = some (.int .i64 tsp) := (hPw6.cell (p := ⟨_, _, none⟩) ztw5).trans t3w5
              have hBw6 : Below w.heap.size w w6 := below_step (w := w) (by first | assumption | go_grown) hb
              clear hb hsw6 hPw6
              clear ztw5 t0w5 t1w5 t2w5 t3w5
              cases k2tl : inB tl 1 1000000
              · have hr : R = 9 := by
                  have e : trE (T j) = 9 := by rw [HTJ.out]; unfold trE; exact if_pos (by simp [k2tl])
                  rw [HNO1.out j hjn hq.out (by rw [e]; decide), e]
                have HR0 := Lib.hid hr
                clear hr
                go_wp2
                go_returns
                rw [HR0.out]
                exact ⟨rfl, hBw6⟩
              · go_wp2_with fail
                (go_at_call 27; refine (from_any tsp 0 1000000 _).mono ?_; rintro e_ w7 ⟨rfl, hb⟩)
                have hsw7 := hb.size
                (try simp only [World.size_alloc, World.size_setCell] at hsw7)
                have zzw7 : w.heap.size < w7.heap.size := by omega
                have hPw7 : Below w6.heap.size w6 w7 := below_step (w := w6) (by first | exact Below.refl _ _ | go_grown) hb
                have ztw7 : w3.heap.size < w7.heap.size := by omega
                have t0w7 : w7.cell? ⟨w3.heap.size, 0, none⟩ = some (.int .i64 ta) := (hPw7.cell (p := ⟨_, _, none⟩) ztw6).trans t0w6
                have t1w7 : w7.cell? ⟨w3.heap.size, 1, none⟩ = some (.int .i64 tb) := (hPw7.cell (p := ⟨_, _, none⟩) ztw6).trans t1w6
                have t2w7 : w7.cell? ⟨w3.heap.size, 2, none⟩ = some (.int .i64 tl) := (hPw7.cell (p := ⟨_, _, none⟩) ztw6).trans t2w6
                have t3w7 : w7.cell? ⟨w3.heap.size, 3, none⟩ = some (.int .i64 tsp) := (hPw7.cell (p := ⟨_, _, none⟩) ztw6).trans t3w6
                have hBw7 : Below w.heap.size w w7 := below_step (w := w) (by first | assumption | go_grown) hb
                clear hb hsw7 hPw7
                clear ztw6 t0w6 t1w6 t2w6 t3w6
                cases k3tsp : inB tsp 0 1000000
                · have hr : R = 9 := by
                    have e : trE (T j) = 9 := by rw [HTJ.out]; unfold trE; exact if_pos (by simp [k3tsp])
                    rw [HNO1.out j hjn hq.out (by rw [e]; decide), e]
                  have HR0 := Lib.hid hr
                  clear hr
                  go_wp2
                  go_returns
                  rw [HR0.out]
                  exact ⟨rfl, hBw7⟩
                · by_cases hab : ta = tb
                  · have e9 : trE (T j) = 2 := by
                      rw [HTJ.out]
                      unfold trE
                      rw [if_neg (by simp [k0ta, k1tb, k2tl, k3tsp])]
                      exact if_pos hab
                    subst hab
                    have hr : R = 2 := by
                      have e : trE (T j) = 2 := by exact e9
                      rw [HNO1.out j hjn hq.out (by rw [e]; decide), e]
                    have HR0 := Lib.hid hr
                    clear hr
                    go_wp2
                    go_returns
                    rw [HR0.out]
                    exact ⟨rfl, hBw7⟩
                  · have hq2 : Hid (∀ i, i < j + 1 → trE (T i) = 0) := fun i hi => by
                      by_cases e : i = j
                      · subst e
                        rw [HTJ.out]
                        unfold trE
                        rw [if_neg (by simp [k0ta, k1tb, k2tl, k3tsp])]
                        exact if_neg hab
                      · exact hq.out i (by omega)
                    have kab : (ta == tb) = false := by simpa using hab
                    have HBZ := Lib.hid hBw7
                    clear hab
                    go_wp2
                    go_roundw
                    case rel => exact ⟨j + 1, by omega, by go_num, hq2, HBZ.out⟩
                    case measure => simp [intOf]; omega
        · obtain rfl : j = n := by omega
          have HQ1 := hq
          have HNO2 : Hid (∀ j, j < m → (∀ i, i < j → cbE C i = 0) → cbE C j ≠ 0 → R = cbE C j) := fun q h1 h2 h3 => by rw [← HRB.out (fun i hi => HQ1.out i hi), firstE_hit h2 h3 h1]
          clear hq hjn hj
          obtain ⟨MBK, hMBK⟩ : ∃ b, w3.heap.size = b := ⟨_, rfl⟩
          have hMB0 : w.heap.size ≤ MBK := by have := hB.size; omega
          have HMBK := Lib.hid hMBK
          clear hMBK
          go_wp2
          rw [HMBK.out]
          go_loopw [55] (fun i wr => ∃ (j : Nat) (D : DataW Unit), j ≤ m ∧ i = .int .i64 j ∧ Hid (SMap wr MBK j D) ∧ Hid (MapSIs D (idsL C j)) ∧ Hid (∀ i, i < j → cbE C i = 0) ∧ MBK < wr.heap.size ∧ Below w.heap.size w wr) (fun i _ => m - (intOf i).toNat)
          case atStart =>
              refine ⟨0, .map [], by omega, rfl, show World.ownsMap _ _ _ _ _ _ _ from ?_, MapSIs.nil, fun i hi => (by omega), (by have h := HMBK.out; simp only [World.size_alloc]; omega), hB.alloc hB.size _⟩
              have h := World.ownsMap_made (H := Unit) w3 Tryd.prog 9 (plainElem Tryd.prog 4)
              rw [HMBK.out] at h
              exact h
          case round =>
            obtain ⟨w4, rfl⟩ : ∃ x : World, x = wr := ⟨_, rfl⟩
            obtain ⟨j, D, hj, rfl, HM, HI, hq, hzM, hB⟩ := hrel
            by_cases hjn : j < m
            · obtain ⟨b1, f1, rfl, hbl1, hcl1⟩ := HCL.out j hjn
              have c0 : w4.cell? ⟨b1, f1 + j * 4, none⟩ = some (.string (C j).id) := (hB.cell (p := ⟨_, _, none⟩) hbl1).trans (hcl1 j hjn).1
              have c1 : w4.cell? ⟨b1, f1 + j * 4 + 1, none⟩ = some (.int .i64 (C j).fr) := (hB.cell (p := ⟨_, _, none⟩) hbl1).trans (hcl1 j hjn).2.1
              have c2 : w4.cell? ⟨b1, f1 + j * 4 + 2, none⟩ = some (.int .i64 (C j).to) := (hB.cell (p := ⟨_, _, none⟩) hbl1).trans (hcl1 j hjn).2.2.1
              have c3 : w4.cell? ⟨b1, f1 + j * 4 + 3, none⟩ = some (.int .i64 (C j).sz) := (hB.cell (p := ⟨_, _, none⟩) hbl1).trans (hcl1 j hjn).2.2.2
              have hsz0 := HSZ.out j hjn
              obtain ⟨⟨ci, cf, ct, cs⟩, hcj⟩ : ∃ c, C j = c := ⟨_, rfl⟩
              rw [hcj] at c0 c1 c2 c3 hsz0
              dsimp only at c0 c1 c2 c3 hsz0
              have hsz : ci.size ≤ 2147483648 := by omega
              have HCJ := Lib.hid hcj
              have HCL1 := Lib.hid hcl1
              have hbr1 : b1 < w4.heap.size := by have := hB.size; omega
              have hz0 : w.heap.size ≤ w4.heap.size := hB.size
              have k0 : (0 : Int) ≤ (j : Int) := by omega
              have k1 : (j : Int) < (m : Int) := by omega
              clear hcl1 hcj
              go_wp2_with fail
              (go_at_call 30; refine (isId_any ci _ (by omega) (HML.out.below (by first | assumption | go_grown))).mono ?_; rintro e_ w5 ⟨rfl, hb⟩)
              have hsw5 := hb.size
              (try simp only [World.size_alloc, World.size_setCell] at hsw5)
              have zzw5 : w.heap.size < w5.heap.size := by omega
              have hPw5 : Below w4.heap.size w4 w5 := below_step (w := w4) (by first | exact Below.refl _ _ | go_grown) hb
              have ztw5 : w4.heap.size < w5.heap.size := by omega
              have t0w5 : w5.cell? ⟨w4.heap.size, 0, none⟩ = some (.string ci) := (hb.cell (p := ⟨_, _, none⟩) (by simp <;> omega)).trans (by simp [go_sem])
              have t1w5 : w5.cell? ⟨w4.heap.size, 1, none⟩ = some (.int .i64 cf) := (hb.cell (p := ⟨_, _, none⟩) (by simp <;> omega)).trans (by simp [go_sem])
              have t2w5 : w5.cell? ⟨w4.heap.size, 2, none⟩ = some (.int .i64 ct) := (hb.cell (p := ⟨_, _, none⟩) (by simp <;> omega)).trans (by simp [go_sem])
              have t3w5 : w5.cell? ⟨w4.heap.size, 3, none⟩ = some (.int .i64 cs) := (hb.cell (p := ⟨_, _, none⟩) (by simp <;> omega)).trans (by simp [go_sem])
              replace HM := Lib.hid (HM.out.below hPw5)
              have hBw5 : Below w.heap.size w w5 := below_step (w := w) (by first | assumption | go_grown) hb
              clear hb hsw5 hPw5
              cases hid1 : idB ci
              · have hr : R = 6 := by
                  have e : cbE C j = 6 := by unfold cbE; rw [HCJ.out, if_pos hid1]
                  rw [HNO2.out j hjn hq.out (by rw [e]; decide), e]
                have HR0 := Lib.hid hr
                clear hr
                go_wp2
                go_returns
                rw [HR0.out]
                exact ⟨rfl, hBw5⟩
              · go_wp2_with fail
                (go_at_call 29; refine (junction_any cf _).mono ?_; rintro e_ w6 ⟨rfl, hb⟩)
                have hsw6 := hb.size
                (try simp only [World.size_alloc, World.size_setCell] at hsw6)
                have zzw6 : w.heap.size < w6.heap.size := by omega
                have hPw6 : Below w5.heap.size w5 w6 := below_step (w := w5) (by first | exact Below.refl _ _ | go_grown) hb
                have ztw6 : w4.heap.size < w6.heap.size := by omega
                have t0w6 : w6.cell? ⟨w4.heap.size, 0, none⟩ = some (.string ci) := (hPw6.cell (p := ⟨_, _, none⟩) ztw5).trans t0w5
                have t1w6 : w6.cell? ⟨w4.heap.size, 1, none⟩ = some (.int .i64 cf) := (hPw6.cell (p := ⟨_, _, none⟩) ztw5).trans t1w5
                have t2w6 : w6.cell? ⟨w4.heap.size, 2, none⟩ = some (.int .i64 ct) := (hPw6.cell (p := ⟨_, _, none⟩) ztw5).trans t2w5
                have t3w6 : w6.cell? ⟨w4.heap.size, 3, none⟩ = some (.int .i64 cs) := (hPw6.cell (p := ⟨_, _, none⟩) ztw5).trans t3w5
                replace HM := Lib.hid (HM.out.below hPw6)
                have hBw6 : Below w.heap.size w w6 := below_step (w := w) (by first | assumption | go_grown) hb
                clear hb hsw6 hPw6
                clear ztw5 t0w5 t1w5 t2w5 t3w5
                cases k0cf : inB cf 0 255
                · have hr : R = 9 := by
                    have e : cbE C j = 9 := by unfold cbE; rw [HCJ.out, if_neg (by rw [hid1]; decide)]; exact if_pos (by simp [k0cf])
                    rw [HNO2.out j hjn hq.out (by rw [e]; decide), e]
                  have HR0 := Lib.hid hr
                  clear hr
                  go_wp2
                  go_returns
                  rw [HR0.out]
                  exact ⟨rfl, hBw6⟩
                · go_wp2_with fail
                  (go_at_call 29; refine (junction_any ct _).mono ?_; rintro e_ w7 ⟨rfl, hb⟩)
                  have hsw7 := hb.size
                  (try simp only [World.size_alloc, World.size_setCell] at hsw7)
                  have zzw7 : w.heap.size < w7.heap.size := by omega
                  have hPw7 : Below w6.heap.size w6 w7 := below_step (w := w6) (by first | exact Below.refl _ _ | go_grown) hb
                  have ztw7 : w4.heap.size < w7.heap.size := by omega
                  have t0w7 : w7.cell? ⟨w4.heap.size, 0, none⟩ = some (.string ci) := (hPw7.cell (p := ⟨_, _, none⟩) ztw6).trans t0w6
                  have t1w7 : w7.cell? ⟨w4.heap.size, 1, none⟩ = some (.int .i64 cf) := (hPw7.cell (p := ⟨_, _, none⟩) ztw6).trans t1w6
                  have t2w7 : w7.cell? ⟨w4.heap.size, 2, none⟩ = some (.int .i64 ct) := (hPw7.cell (p := ⟨_, _, none⟩) ztw6).trans t2w6
                  have t3w7 : w7.cell? ⟨w4.heap.size, 3, none⟩ = some (.int .i64 cs) := (hPw7.cell (p := ⟨_, _, none⟩) ztw6).trans t3w6
                  replace HM := Lib.hid (HM.out.below hPw7)
                  have hBw7 : Below w.heap.size w w7 := below_step (w := w) (by first | assumption | go_grown) hb
                  clear hb hsw7 hPw7
                  clear ztw6 t0w6 t1w6 t2w6 t3w6
                  cases k1ct : inB ct 0 255
                  · have hr : R = 9 := by
                      have e : cbE C j = 9 := by unfold cbE; rw [HCJ.out, if_neg (by rw [hid1]; decide)]; exact if_pos (by simp [k1ct])
                      rw [HNO2.out j hjn hq.out (by rw [e]; decide), e]
                    have HR0 := Lib.hid hr
                    clear hr
                    go_wp2
                    go_returns
                    rw [HR0.out]
                    exact ⟨rfl, hBw7⟩
                  · go_wp2_with fail
                    (go_at_call 27; refine (from_any cs 1 1000000 _).mono ?_; rintro e_ w8 ⟨rfl, hb⟩)
                    have hsw8 := hb.size
                    (try simp only [World.size_alloc, World.size_setCell] at hsw8)
                    have zzw8 : w.heap.size < w8.heap.size := by omega
                    have hPw8 : Below w7.heap.size w7 w8 := below_step (w := w7) (by first | exact Below.refl _ _ | go_grown) hb
                    have ztw8 : w4.heap.size < w8.heap.size := by omega
                    have t0w8 : w8.cell? ⟨w4.heap.size, 0, none⟩ = some (.string ci) := (hPw8.cell (p := ⟨_, _, none⟩) ztw7).trans t0w7
                    have t1w8 : w8.cell? ⟨w4.heap.size, 1, none⟩ = some (.int .i64 cf) := (hPw8.cell (p := ⟨_, _, none⟩) ztw7).trans t1w7
                    have t2w8 : w8.cell? ⟨w4.heap.size, 2, none⟩ = some (.int .i64 ct) := (hPw8.cell (p := ⟨_, _, none⟩) ztw7).trans t2w7
                    have t3w8 : w8.cell? ⟨w4.heap.size, 3, none⟩ = some (.int .i64 cs) := (hPw8.cell (p := ⟨_, _, none⟩) ztw7).trans t3w7
                    replace HM := Lib.hid (HM.out.below hPw8)
                    have hBw8 : Below w.heap.size w w8 := below_step (w := w) (by first | assumption | go_grown) hb
                    clear hb hsw8 hPw8
                    clear ztw7 t0w7 t1w7 t2w7 t3w7
                    cases k2cs : inB cs 1 1000000
                    · have hr : R = 9 := by
                        have e : cbE C j = 9 := by unfold cbE; rw [HCJ.out, if_neg (by rw [hid1]; decide)]; exact if_pos (by simp [k2cs])
                        rw [HNO2.out j hjn hq.out (by rw [e]; decide), e]
                      have HR0 := Lib.hid hr
                      clear hr
                      go_wp2
                      go_returns
                      rw [HR0.out]
                      exact ⟨rfl, hBw8⟩
                    · by_cases hab : cf = ct
                      · have e9 : cbE C j = 2 := by
                          unfold cbE
                          rw [HCJ.out, if_neg (by rw [hid1]; decide), if_neg (by simp [k0cf, k1ct, k2cs])]
                          exact if_pos hab
                        subst hab
                        have hr : R = 2 := by
                          have e : cbE C j = 2 := by exact e9
                          rw [HNO2.out j hjn hq.out (by rw [e]; decide), e]
                        have HR0 := Lib.hid hr
                        clear hr
                        go_wp2
                        go_returns
                        rw [HR0.out]
                        exact ⟨rfl, hBw8⟩
                      · have HCB : Hid (cbE C j = if ci.data.toList ∈ idsL C j then 7 else 0) := by
                          show _ = _
                          unfold cbE
                          rw [HCJ.out, if_neg (by rw [hid1]; decide), if_neg (by simp [k0cf, k1ct, k2cs])]
                          exact if_neg hab
                        have kab : (cf == ct) = false := by simpa using hab
                        have hlk := HM.out.look HI.out hsz
                        cases hc : decide (ci.data.toList ∈ idsL C j)
                        · have hmem : ci.data.toList ∉ idsL C j := of_decide_eq_false hc
                          rw [hc] at hlk
                          have hq2 : Hid (∀ i, i < j + 1 → cbE C i = 0) := fun i hi => by
                            by_cases e : i = j
                            · subst e
                              rw [HCB.out]
                              exact if_neg hmem
                            · exact hq.out i (by omega)
                          have HI2 := Lib.hid (HI.out.put (s := ci) hsz)
                          have HIC : Hid (idsL C (j + 1) = idsL C j ++ [ci.data.toList]) := by
                            show _ = _
                            rw [idsL_succ, HCJ.out]
                          clear hab hmem hc
                          go_wp2_with (first
                            | (at_mapUpdate; refine wpList_mapUpdate_own _ rfl _ _ _ 53 rfl 9 4 keyedS Tryd.underlying53 _ MBK j _ rfl HM.out (by unfold maxLen; omega) (.string ci) _ _ rfl rfl (keyS hsz) _ [] (plainElem_bool Tryd.underlying4 true) ?_; intro wm hMm hgm; go_frame)
                            | go_in)
                          have hBm : Below w.heap.size w wm := Below.grown hBw8 hgm (by have := hBw8.size; omega) (fun k hk => by cases hk; omega)
                          have hzm := hgm.size
                          have HIM : Hid (MapSIs (D.put (.string ci.data.toList) (.lit (.bool true))) (idsL C (j + 1))) := by
                            show MapSIs _ _
                            rw [HIC.out]; exact HI2.out
                          go_wp2
                          go_roundw
                          case rel => exact ⟨j + 1, _, by omega, by go_num, hMm, HIM, hq2, by omega, hBm⟩
                          case measure => simp [intOf]; omega
                        · have hmem : ci.data.toList ∈ idsL C j := of_decide_eq_true hc
                          rw [hc] at hlk
                          have hr : R = 7 := by
                            have e : cbE C j = 7 := by rw [HCB.out]; exact if_pos hmem
                            rw [HNO2.out j hjn hq.out (by rw [e]; decide), e]
                          have HR0 := Lib.hid hr
                          clear hr
                          go_wp2
                          go_returns
                          rw [HR0.out]
                          exact ⟨rfl, hBw8⟩
            · obtain rfl : j = m := by omega
              have hr : R = 0 := by rw [← HRB.out (fun i hi => HQ1.out i hi), firstE_all hq.out]
              have HR0 := Lib.hid hr
              clear hr
              go_wp2
              go_returns
              rw [HR0.out]
              exact ⟨rfl, hB⟩
end Go.Proofs.YtpkgadjglidnaaaDoor
