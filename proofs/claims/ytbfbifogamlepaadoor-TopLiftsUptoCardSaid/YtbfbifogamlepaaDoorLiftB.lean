/-
  What shared returns. Conditions: none. By an AI agent.
-/
import Derived.Test.YtbfbifogamlepaaDoorLiftA
import Derived.Test.YtbfbifogamlepaaDoorTail
import Derived.Test.YtbfbifogamlepaaDoorStore
import Derived.Test.YtbfbifogamlepaaDoorCells
namespace Go.Proofs.YtbfbifogamlepaaDoor
open Go Go.ChangeShapes Go.WideShapes Go.RowKit Go.ChangeAt
set_option linter.unusedSimpArgs false
set_option linter.unusedVariables false
/-- a list of ints in memory -/
def OutI (w : World) (v : Value) (l : List Int) : Prop := IntsAt w v l.length (fun i => l.getD i 0)
theorem OutI.below {w w' : World} {v : Value} {l : List Int} (h : OutI w v l) (hb : Below w.heap.size w w') : OutI w' v l := IntsAt.below h hb
theorem outI_nil (w : World) : OutI w (.slice none 0 0) [] := intsAt_nil w _
theorem outI_one (w : World) (a : Int) (t : TypeId) : OutI (w.alloc (.cells #[.int .i64 a] t)) (.slice (some ⟨w.heap.size, 0, none⟩) 1 1) [a] := by
  refine ⟨_, _, rfl, Nat.le_refl _, by decide, fun _ => ⟨_, 0, rfl, by simp, fun i j hi hj => ?_⟩⟩
  have : j = 0 := by omega
  subst this
  have : i = 0 := by simpa using hi
  subst this
  simp [go_sem]
theorem outI_two (w : World) (a b : Int) (t : TypeId) : OutI (w.alloc (.cells #[.int .i64 a, .int .i64 b] t)) (.slice (some ⟨w.heap.size, 0, none⟩) 2 2) [a, b] := by
  refine ⟨_, _, rfl, Nat.le_refl _, by decide, fun _ => ⟨_, 0, rfl, by simp, fun i j hi hj => ?_⟩⟩
  have : j = 0 := by omega
  subst this
  have : i < 2 := by simpa using hi
  rcases (by omega : i = 0 ∨ i = 1) with rfl | rfl <;> simp [go_sem]
theorem newFrom_at {B g n c : Nat} (h : B ≤ g) : NewFrom B (.slice (some ⟨g, 0, none⟩) n c) := fun b hb => by simp [Value.ownBlock] at hb; omega
/-- ints and an error -/
def Prp.tupI (B : Nat) (l : List Int) (e : Int) : Prp where
  R := fun v w => ∃ v', v = .tuple #[v', .int .i64 e] ∧ OutI w v' l ∧ NewFrom B v'
  F := fun v b => ∃ v', v = .tuple #[v', .int .i64 e] ∧ 0 < l.length ∧ v'.ownBlock = some b
  grow := fun v w w' hb ⟨v', h1, h2, h3⟩ => ⟨v', h1, h2.below hb, h3⟩
  kept := fun v w w' b cs t hs hn ⟨v', h1, h2, h3⟩ => ⟨v', h1, (Prp.ints l.length (fun i => l.getD i 0)).kept v' w w' b cs t hs (fun h => hn ⟨v', h1, h.1, h.2⟩) h2, h3⟩
  lt := fun v w b ⟨v', h1, h2, _⟩ ⟨v'', h3, h4, h5⟩ => by
    rw [h1] at h3
    obtain rfl : v' = v'' := by simpa using h3
    exact (Prp.ints l.length (fun i => l.getD i 0)).lt v' w b h2 ⟨h4, h5⟩
def Prp.outI (B : Nat) (l : List Int) : Prp where
  R := fun v w => OutI w v l ∧ NewFrom B v
  F := fun v b => 0 < l.length ∧ v.ownBlock = some b
  grow := fun v w w' hb h => ⟨h.1.below hb, h.2⟩
  kept := fun v w w' b cs t hs hn h => ⟨(Prp.ints l.length (fun i => l.getD i 0)).kept v w w' b cs t hs hn h.1, h.2⟩
  lt := fun v w b h hf => (Prp.ints l.length (fun i => l.getD i 0)).lt v w b h.1 hf
/-- two hooks along an axis -/
def SegBad (px py qx qy tx ty : Int) : Prop := tx < mn px qx ∨ mx px qx < tx ∨ 4194304 < ab ty ∨ 100 * ab (qx - px) < ab ((qx - px) * (ty - py) - (qy - py) * (tx - px))
instance (px py qx qy tx ty : Int) : Decidable (SegBad px py qx qy tx ty) := by unfold SegBad; exact inferInstance
def segF (g px py qx qy tx ty : Int) : List Int × Int := if SegBad px py qx qy tx ty then ([], 18) else if (shareF g px 0 qx 0 tx 0).2.2 = 0 then ([(shareF g px 0 qx 0 tx 0).1, (shareF g px 0 qx 0 tx 0).2.1], 0) else ([], (shareF g px 0 qx 0 tx 0).2.2)
def sharedF (g ax ay bx by' cx cy : Int) : List Int × Int := if (ax, ay) = (bx, by') then ([], 17) else if ab (ax - bx) < ab (ay - by') then segF g ay ax by' bx cy cx else segF g ax ay bx by' cx cy
theorem mn_mx_in {p q t : Int} (h0 : mn p q ≤ t) (h1 : t ≤ mx p q) (hp : -524288 ≤ p ∧ p ≤ 524288) (hq : -524288 ≤ q ∧ q ≤ 524288) : -524288 ≤ t ∧ t ≤ 524288 := by
  unfold mn at h0; unfold mx at h1
  split at h0 <;> split at h1 <;> omega
set_option maxRecDepth 20000 in
set_option maxHeartbeats 4000000 in
theorem shared_any (g ax ay bx by' cx cy : Int) (w : World) (ha : -524288 ≤ ax ∧ ax ≤ 524288 ∧ -524288 ≤ ay ∧ ay ≤ 524288) (hb : -524288 ≤ bx ∧ bx ≤ 524288 ∧ -524288 ≤ by' ∧ by' ≤ 524288) (hc : -2305843009213693952 ≤ cx ∧ cx ≤ 2305843009213693952 ∧ -2305843009213693952 ≤ cy ∧ cy ≤ 2305843009213693952) :
    Calls Tryd.prog 22 #[.int .i64 g, .agg #[.int .i64 ax, .int .i64 ay], .agg #[.int .i64 bx, .int .i64 by'], .agg #[.int .i64 cx, .int .i64 cy]] w fun e w' => ∃ v, e = .returned (.tuple #[v, .int .i64 (sharedF g ax ay bx by' cx cy).2]) ∧ OutI w' v (sharedF g ax ay bx by' cx cy).1 ∧ NewFrom w.heap.size v ∧ Below w.heap.size w w' := by
  obtain ⟨a0, a1, a2, a3⟩ := ha
  obtain ⟨b0, b1, b2, b3⟩ := hb
  obtain ⟨c0, c1, c2, c3⟩ := hc
  have hmx := run_mx
  have hmn := run_mn
  by_cases he : (ax, ay) = (bx, by')
  · have E1 : Hid (sharedF g ax ay bx by' cx cy = ([], 17)) := if_pos he
    have heq := fun W => eql_point ax ay bx by' W
    rw [decide_eq_true he] at heq
    go_enter Tryd.func22, Tryd.ntmps22
    go_wp2
    go_returns
    rw [E1.out]
    exact ⟨_, rfl, outI_nil _, newFrom_nil _, by go_grown⟩
  have heq := fun W => eql_point ax ay bx by' W
  rw [decide_eq_false he] at heq
  obtain ⟨P, hP⟩ : ∃ P, ab (ax - bx) = P := ⟨_, rfl⟩
  obtain ⟨Q, hQ⟩ : ∃ Q, ab (ay - by') = Q := ⟨_, rfl⟩
  have HP := Lib.hid hP
  have HQ := Lib.hid hQ
  have E := Lib.hid he
  clear hP hQ he
  go_enter Tryd.func22, Tryd.ntmps22
  have hpc := past_cell
  go_wp2_with fail
  refine wp_region_past (by kernel_rfl) (by kernel_rfl) ?_
  iterate 5 go_big_quiet_step (fail)
  go_big_quiet_step ((go_at_call 39; exact past_of (labs_in _ _ _ ⟨by omega, by omega⟩ HP.out)))
  iterate 5 go_big_quiet_step (fail)
  go_big_quiet_step ((go_at_call 39; exact past_of (labs_in _ _ _ ⟨by omega, by omega⟩ HQ.out)))
  iterate 1 go_big_quiet_step (fail)
  refine wpQuiet_nil ?_
  intro w3 hw'
  have hb := past_out hw'
  clear hw'
  have HB3 := Lib.hid hb
  obtain ⟨hc3, hf3⟩ := bcell hb
  have hs3 := hb.size
  (try simp only [World.size_alloc] at hs3)
  have z30 : w.heap.size < w3.heap.size := by omega
  have z31 : w.heap.size + 1 < w3.heap.size := by omega
  have z32 : w.heap.size + 1 + 1 < w3.heap.size := by omega
  have k00 : w3.cell? ⟨w.heap.size, 0, none⟩ = some (.int .i64 ax) := by rw [hc3 _ _ (by simp <;> omega)]; simp [go_sem]
  have k01 : w3.cell? ⟨w.heap.size, 1, none⟩ = some (.int .i64 ay) := by rw [hc3 _ _ (by simp <;> omega)]; simp [go_sem]
  have k10 : w3.cell? ⟨w.heap.size + 1, 0, none⟩ = some (.int .i64 bx) := by rw [hc3 _ _ (by simp <;> omega)]; simp [go_sem]
  have k11 : w3.cell? ⟨w.heap.size + 1, 1, none⟩ = some (.int .i64 by') := by rw [hc3 _ _ (by simp <;> omega)]; simp [go_sem]
  have k20 : w3.cell? ⟨w.heap.size + 1 + 1, 0, none⟩ = some (.int .i64 cx) := by rw [hc3 _ _ (by simp <;> omega)]; simp [go_sem]
  have k21 : w3.cell? ⟨w.heap.size + 1 + 1, 1, none⟩ = some (.int .i64 cy) := by rw [hc3 _ _ (by simp <;> omega)]; simp [go_sem]
  have l0 : ∀ o, w3.frozen? ⟨w.heap.size, o, none⟩ = false := by intro o; rw [hf3 _ _ (by simp <;> omega)]; simp [go_sem]
  have l1 : ∀ o, w3.frozen? ⟨w.heap.size + 1, o, none⟩ = false := by intro o; rw [hf3 _ _ (by simp <;> omega)]; simp [go_sem]
  have l2 : ∀ o, w3.frozen? ⟨w.heap.size + 1 + 1, o, none⟩ = false := by intro o; rw [hf3 _ _ (by simp <;> omega)]; simp [go_sem]
  clear hb hc3 hf3
  clear heq
  by_cases hPQ : P < Q
  · have E0 : Hid (sharedF g ax ay bx by' cx cy = segF g ay ax by' bx cy cx) := by show _ = _; unfold sharedF; rw [if_neg E.out, HP.out, HQ.out, if_pos hPQ]
    go_wp2_with fail
    refine wp_region_past_tail 6 (by kernel_rfl) (by kernel_rfl) ?_
    simp only [List.take_succ_cons, List.take_zero, List.drop_succ_cons, List.drop_zero]
    iterate 1 go_big_quiet_step (fail)
    go_big_quiet_step ((go_at_call 40; exact past_of (turned_any _ _ _)))
    iterate 1 go_big_quiet_step (fail)
    go_big_quiet_step ((go_at_call 40; exact past_of (turned_any _ _ _)))
    iterate 1 go_big_quiet_step (fail)
    go_big_quiet_step ((go_at_call 40; exact past_of (turned_any _ _ _)))
    refine wpQuiet_nil ?_
    intro w4 hw'
    have hb := past_out hw'
    clear hw'
    have HB4 := Lib.hid hb
    obtain ⟨hc4, hf4⟩ := bcell hb
    have hs4 := hb.size
    have z40 : w.heap.size < w4.heap.size := by omega
    have z41 : w.heap.size + 1 < w4.heap.size := by omega
    have z42 : w.heap.size + 1 + 1 < w4.heap.size := by omega
    clear hb
    have qa : w4.heap[w.heap.size]? = some (.cells #[.int .i64 ax, .int .i64 ay] 43) := by rw [HB4.out.block _ z30, HB3.out.block _ (by simp <;> omega), heapA_old _ _ _ (by simp <;> omega), heapA_old _ _ _ (by simp <;> omega), heapA_at _ _ _ rfl]
    have qb : w4.heap[w.heap.size + 1]? = some (.cells #[.int .i64 bx, .int .i64 by'] 43) := by rw [HB4.out.block _ z31, HB3.out.block _ (by simp <;> omega), heapA_old _ _ _ (by simp <;> omega), heapA_at _ _ _ (by simp)]
    have qc : w4.heap[w.heap.size + 1 + 1]? = some (.cells #[.int .i64 cx, .int .i64 cy] 43) := by rw [HB4.out.block _ z32, HB3.out.block _ (by simp <;> omega), heapA_at _ _ _ (by simp)]
    refine wpList_store_all 43 w.heap.size 2 #[.int .i64 ay, .int .i64 ax] 43 (by kernel_rfl) rfl rfl rfl rfl ⟨_, qa, rfl⟩ ?_
    intro wA hsA
    replace qb := (hsA.other _ (by omega)).trans qb
    replace qc := (hsA.other _ (by omega)).trans qc
    have qa1 := hsA.here
    refine wpList_store_all 43 (w.heap.size + 1) 2 #[.int .i64 by', .int .i64 bx] 43 (by kernel_rfl) rfl rfl rfl rfl ⟨_, qb, rfl⟩ ?_
    intro wB hsB
    replace qa1 := (hsB.other _ (by omega)).trans qa1
    replace qc := (hsB.other _ (by omega)).trans qc
    have qb1 := hsB.here
    refine wpList_store_all 43 (w.heap.size + 1 + 1) 2 #[.int .i64 cy, .int .i64 cx] 43 (by kernel_rfl) rfl rfl rfl rfl ⟨_, qc, rfl⟩ ?_
    intro wC hsC
    replace qa1 := (hsC.other _ (by omega)).trans qa1
    replace qb1 := (hsC.other _ (by omega)).trans qb1
    have qc1 := hsC.here
    have HBW : Hid (Below w.heap.size w wC) := by
      show Below _ _ _
      exact Stored.below (Stored.below (Stored.below (below_step (below_step (w := w) (by go_grown) HB3.out) HB4.out) hsA (by omega)) hsB (by omega)) hsC (by omega)
    clear k00 k01 k10 k11 k20 k21 l0 l1 l2 qa qb qc
    obtain ⟨k00, k01, l0, s0⟩ := cells_at2 qa1
    obtain ⟨k10, k11, l1, s1⟩ := cells_at2 qb1
    obtain ⟨k20, k21, l2, s2⟩ := cells_at2 qc1
    have HQA := Lib.hid qa1
    have HQB := Lib.hid qb1
    have HQC := Lib.hid qc1
    have hsC2 := hsC.size
    have hsB2 := hsB.size
    have hsA2 := hsA.size
    have z70 : w.heap.size < wC.heap.size := by omega
    have z71 : w.heap.size + 1 < wC.heap.size := by omega
    have z72 : w.heap.size + 1 + 1 < wC.heap.size := by omega
    clear qa1 qb1 qc1 hsA hsB hsC hc4 hf4 hsC2 hsB2 hsA2
    by_cases g0 : cy < mn ay by'
    · have E1 : Hid (sharedF g ax ay bx by' cx cy = ([], 18)) := E0.out.trans (if_pos (.inl g0))
      go_wp2
      go_returns
      rw [E1.out]
      exact ⟨_, rfl, outI_nil _, newFrom_nil _, by first | exact HBW.out | go_grown⟩
    have g0 : mn ay by' ≤ cy := by omega
    by_cases g1 : mx ay by' < cy
    · have E1 : Hid (sharedF g ax ay bx by' cx cy = ([], 18)) := E0.out.trans (if_pos (.inr (.inl g1)))
      go_wp2
      go_returns
      rw [E1.out]
      exact ⟨_, rfl, outI_nil _, newFrom_nil _, by first | exact HBW.out | go_grown⟩
    have g1 : cy ≤ mx ay by' := by omega
    obtain ⟨T, hT⟩ : ∃ T, ab cx = T := ⟨_, rfl⟩
    by_cases g2 : 4194304 < T
    · have E1 : Hid (sharedF g ax ay bx by' cx cy = ([], 18)) := E0.out.trans (if_pos (.inr (.inr (.inl (by rw [hT]; exact g2)))))
      have HT := Lib.hid hT
      clear hT
      go_wp2_with fail
      (go_at_call 39; refine (labs_in _ _ _ ⟨by omega, by omega⟩ HT.out).mono ?_; rintro e w5 ⟨rfl, hb⟩)
      have HB5 := Lib.hid hb
      obtain ⟨hc5, hf5⟩ := bcell hb
      have hs5 := hb.size
      (try simp only [World.size_alloc, World.size_setCell] at hs5)
      have z50 : w.heap.size < w5.heap.size := by omega
      have z51 : w.heap.size + 1 < w5.heap.size := by omega
      have z52 : w.heap.size + 1 + 1 < w5.heap.size := by omega
      clear hb
      go_wp2
      go_returns
      rw [E1.out]
      exact ⟨_, rfl, outI_nil _, newFrom_nil _, by first | exact below_step HBW.out HB5.out | go_grown⟩
    have g2 : T ≤ 4194304 := by omega
    obtain ⟨y0, y1⟩ : -4194304 ≤ cx ∧ cx ≤ 4194304 := by unfold ab mx at hT; split at hT <;> omega
    obtain ⟨x0, x1⟩ := mn_mx_in g0 g1 ⟨by omega, by omega⟩ ⟨by omega, by omega⟩
    obtain ⟨m0, m1⟩ := mul_in (x := by' - ay) (y := cx - ax) (B := 1048576) (C := 4718592) ⟨by omega, by omega⟩ ⟨by omega, by omega⟩
    obtain ⟨m2, m3⟩ := mul_in (x := bx - ax) (y := cy - ay) (B := 1048576) (C := 1048576) ⟨by omega, by omega⟩ ⟨by omega, by omega⟩
    simp only [Int.reduceMul, Int.reduceNeg] at m0 m1 m2 m3
    obtain ⟨N, hN⟩ : ∃ N, ab ((by' - ay) * (cx - ax) - (bx - ax) * (cy - ay)) = N := ⟨_, rfl⟩
    obtain ⟨D, hD⟩ : ∃ D, ab (by' - ay) = D := ⟨_, rfl⟩
    obtain ⟨dd0, dd1⟩ := ab_in (n := by' - ay) (B := 1048576) ⟨by omega, by omega⟩
    rw [hD] at dd0 dd1
    have hT2 : ¬ 4194304 < ab cx := by rw [hT]; omega
    have HT := Lib.hid hT
    have HT2 := Lib.hid hT2
    have HN := Lib.hid hN
    have HD := Lib.hid hD
    clear hT hT2 hN hD
    go_wp2_with fail
    (go_at_call 39; refine (labs_in _ _ _ ⟨by omega, by omega⟩ HT.out).mono ?_; rintro e w5 ⟨rfl, hb⟩)
    have HB5 := Lib.hid hb
    obtain ⟨hc5, hf5⟩ := bcell hb
    have hs5 := hb.size
    (try simp only [World.size_alloc, World.size_setCell] at hs5)
    have z50 : w.heap.size < w5.heap.size := by omega
    have z51 : w.heap.size + 1 < w5.heap.size := by omega
    have z52 : w.heap.size + 1 + 1 < w5.heap.size := by omega
    clear hb
    go_wp2_with fail
    refine wp_region_past (by kernel_rfl) (by kernel_rfl) ?_
    iterate 1 go_big_quiet_step (fail)
    go_big_quiet_step ((go_at_call 39; exact past_of (labs_in _ _ _ ⟨by omega, by omega⟩ HN.out)))
    iterate 5 go_big_quiet_step (fail)
    go_big_quiet_step ((go_at_call 39; exact past_of (labs_in _ _ _ ⟨by omega, by omega⟩ HD.out)))
    iterate 2 go_big_quiet_step (fail)
    refine wpQuiet_nil ?_
    intro w6 hw'
    have hb := past_out hw'
    clear hw'
    have HB6 := Lib.hid hb
    obtain ⟨hc6, hf6⟩ := bcell hb
    have hs6 := hb.size
    have z60 : w.heap.size < w6.heap.size := by omega
    have z61 : w.heap.size + 1 < w6.heap.size := by omega
    have z62 : w.heap.size + 1 + 1 < w6.heap.size := by omega
    clear hb
    by_cases g3 : 100 * D < N
    · have E1 : Hid (sharedF g ax ay bx by' cx cy = ([], 18)) := E0.out.trans (if_pos (.inr (.inr (.inr (by rw [HN.out, HD.out]; exact g3)))))
      go_wp2
      go_returns
      rw [E1.out]
      exact ⟨_, rfl, outI_nil _, newFrom_nil _, below_step (below_step HBW.out HB5.out) HB6.out⟩
    have g3 : ¬ SegBad ay ax by' bx cy cx := by
      rintro (h | h | h | h)
      · omega
      · omega
      · have := HT2.out; omega
      · rw [HN.out, HD.out] at h; exact g3 h
    have g4 : N ≤ 100 * D := by omega
    obtain ⟨X, Y, Z, hS⟩ : ∃ X Y Z, shareF g ay 0 by' 0 cy 0 = (X, Y, Z) := ⟨_, _, _, rfl⟩
    have E1 : Hid (sharedF g ax ay bx by' cx cy = if Z = 0 then ([X, Y], 0) else ([], Z)) := by
      show _ = _
      rw [E0.out]
      unfold segF
      rw [if_neg g3, hS]
    have HS := Lib.hid hS
    clear hS g3
    go_wp2_with fail
    (go_at_call 41; refine (share_any _ _ _ _ _ _ _ _).mono ?_; rintro e w7 ⟨rfl, hb⟩)
    rw [HS.out]
    have HB7 := Lib.hid hb
    clear hb
    by_cases hz : Z = 0
    · subst hz
      have E2 : Hid (sharedF g ax ay bx by' cx cy = ([X, Y], 0)) := E1.out.trans (if_pos rfl)
      simp only [shareV]
      go_wp2
      go_returns
      rw [E2.out]
      exact ⟨_, rfl, outI_two _ _ _ _, newFrom_at (below_step (below_step (below_step HBW.out HB5.out) HB6.out) HB7.out).size, (below_step (below_step (below_step HBW.out HB5.out) HB6.out) HB7.out).alloc (below_step (below_step (below_step HBW.out HB5.out) HB6.out) HB7.out).size _⟩
    · have E2 : Hid (sharedF g ax ay bx by' cx cy = ([], Z)) := E1.out.trans (if_neg hz)
      have z0 : (Z != 0) = true := by simpa using hz
      clear hz
      simp only [shareV]
      go_wp2
      go_returns
      rw [E2.out]
      exact ⟨_, rfl, outI_nil _, newFrom_nil _, below_step (below_step (below_step HBW.out HB5.out) HB6.out) HB7.out⟩
  · have E0 : Hid (sharedF g ax ay bx by' cx cy = segF g ax ay bx by' cx cy) := by show _ = _; unfold sharedF; rw [if_neg E.out, HP.out, HQ.out, if_neg hPQ]
    have HBW : Hid (Below w.heap.size w w3) := by
      show Below _ _ _
      exact below_step (w := w) (by go_grown) HB3.out
    have hPQ2 : Q ≤ P := by omega
    by_cases g0 : cx < mn ax bx
    · have E1 : Hid (sharedF g ax ay bx by' cx cy = ([], 18)) := E0.out.trans (if_pos (.inl g0))
      go_wp2
      go_returns
      rw [E1.out]
      exact ⟨_, rfl, outI_nil _, newFrom_nil _, by first | exact HBW.out | go_grown⟩
    have g0 : mn ax bx ≤ cx := by omega
    by_cases g1 : mx ax bx < cx
    · have E1 : Hid (sharedF g ax ay bx by' cx cy = ([], 18)) := E0.out.trans (if_pos (.inr (.inl g1)))
      go_wp2
      go_returns
      rw [E1.out]
      exact ⟨_, rfl, outI_nil _, newFrom_nil _, by first | exact HBW.out | go_grown⟩
    have g1 : cx ≤ mx ax bx := by omega
    obtain ⟨T, hT⟩ : ∃ T, ab cy = T := ⟨_, rfl⟩
    by_cases g2 : 4194304 < T
    · have E1 : Hid (sharedF g ax ay bx by' cx cy = ([], 18)) := E0.out.trans (if_pos (.inr (.inr (.inl (by rw [hT]; exact g2)))))
      have HT := Lib.hid hT
      clear hT
      go_wp2_with fail
      (go_at_call 39; refine (labs_in _ _ _ ⟨by omega, by omega⟩ HT.out).mono ?_; rintro e w5 ⟨rfl, hb⟩)
      have HB5 := Lib.hid hb
      obtain ⟨hc5, hf5⟩ := bcell hb
      have hs5 := hb.size
      (try simp only [World.size_alloc, World.size_setCell] at hs5)
      have z50 : w.heap.size < w5.heap.size := by omega
      have z51 : w.heap.size + 1 < w5.heap.size := by omega
      have z52 : w.heap.size + 1 + 1 < w5.heap.size := by omega
      clear hb
      go_wp2
      go_returns
      rw [E1.out]
      exact ⟨_, rfl, outI_nil _, newFrom_nil _, by first | exact below_step HBW.out HB5.out | go_grown⟩
    have g2 : T ≤ 4194304 := by omega
    obtain ⟨y0, y1⟩ : -4194304 ≤ cy ∧ cy ≤ 4194304 := by unfold ab mx at hT; split at hT <;> omega
    obtain ⟨x0, x1⟩ := mn_mx_in g0 g1 ⟨by omega, by omega⟩ ⟨by omega, by omega⟩
    obtain ⟨m0, m1⟩ := mul_in (x := bx - ax) (y := cy - ay) (B := 1048576) (C := 4718592) ⟨by omega, by omega⟩ ⟨by omega, by omega⟩
    obtain ⟨m2, m3⟩ := mul_in (x := by' - ay) (y := cx - ax) (B := 1048576) (C := 1048576) ⟨by omega, by omega⟩ ⟨by omega, by omega⟩
    simp only [Int.reduceMul, Int.reduceNeg] at m0 m1 m2 m3
    obtain ⟨N, hN⟩ : ∃ N, ab ((bx - ax) * (cy - ay) - (by' - ay) * (cx - ax)) = N := ⟨_, rfl⟩
    obtain ⟨D, hD⟩ : ∃ D, ab (bx - ax) = D := ⟨_, rfl⟩
    obtain ⟨dd0, dd1⟩ := ab_in (n := bx - ax) (B := 1048576) ⟨by omega, by omega⟩
    rw [hD] at dd0 dd1
    have hT2 : ¬ 4194304 < ab cy := by rw [hT]; omega
    have HT := Lib.hid hT
    have HT2 := Lib.hid hT2
    have HN := Lib.hid hN
    have HD := Lib.hid hD
    clear hT hT2 hN hD
    go_wp2_with fail
    (go_at_call 39; refine (labs_in _ _ _ ⟨by omega, by omega⟩ HT.out).mono ?_; rintro e w5 ⟨rfl, hb⟩)
    have HB5 := Lib.hid hb
    obtain ⟨hc5, hf5⟩ := bcell hb
    have hs5 := hb.size
    (try simp only [World.size_alloc, World.size_setCell] at hs5)
    have z50 : w.heap.size < w5.heap.size := by omega
    have z51 : w.heap.size + 1 < w5.heap.size := by omega
    have z52 : w.heap.size + 1 + 1 < w5.heap.size := by omega
    clear hb
    go_wp2_with fail
    refine wp_region_past (by kernel_rfl) (by kernel_rfl) ?_
    iterate 1 go_big_quiet_step (fail)
    go_big_quiet_step ((go_at_call 39; exact past_of (labs_in _ _ _ ⟨by omega, by omega⟩ HN.out)))
    iterate 5 go_big_quiet_step (fail)
    go_big_quiet_step ((go_at_call 39; exact past_of (labs_in _ _ _ ⟨by omega, by omega⟩ HD.out)))
    iterate 2 go_big_quiet_step (fail)
    refine wpQuiet_nil ?_
    intro w6 hw'
    have hb := past_out hw'
    clear hw'
    have HB6 := Lib.hid hb
    obtain ⟨hc6, hf6⟩ := bcell hb
    have hs6 := hb.size
    have z60 : w.heap.size < w6.heap.size := by omega
    have z61 : w.heap.size + 1 < w6.heap.size := by omega
    have z62 : w.heap.size + 1 + 1 < w6.heap.size := by omega
    clear hb
    by_cases g3 : 100 * D < N
    · have E1 : Hid (sharedF g ax ay bx by' cx cy = ([], 18)) := E0.out.trans (if_pos (.inr (.inr (.inr (by rw [HN.out, HD.out]; exact g3)))))
      go_wp2
      go_returns
      rw [E1.out]
      exact ⟨_, rfl, outI_nil _, newFrom_nil _, below_step (below_step HBW.out HB5.out) HB6.out⟩
    have g3 : ¬ SegBad ax ay bx by' cx cy := by
      rintro (h | h | h | h)
      · omega
      · omega
      · have := HT2.out; omega
      · rw [HN.out, HD.out] at h; exact g3 h
    have g4 : N ≤ 100 * D := by omega
    obtain ⟨X, Y, Z, hS⟩ : ∃ X Y Z, shareF g ax 0 bx 0 cx 0 = (X, Y, Z) := ⟨_, _, _, rfl⟩
    have E1 : Hid (sharedF g ax ay bx by' cx cy = if Z = 0 then ([X, Y], 0) else ([], Z)) := by
      show _ = _
      rw [E0.out]
      unfold segF
      rw [if_neg g3, hS]
    have HS := Lib.hid hS
    clear hS g3
    go_wp2_with fail
    (go_at_call 41; refine (share_any _ _ _ _ _ _ _ _).mono ?_; rintro e w7 ⟨rfl, hb⟩)
    rw [HS.out]
    have HB7 := Lib.hid hb
    clear hb
    by_cases hz : Z = 0
    · subst hz
      have E2 : Hid (sharedF g ax ay bx by' cx cy = ([X, Y], 0)) := E1.out.trans (if_pos rfl)
      simp only [shareV]
      go_wp2
      go_returns
      rw [E2.out]
      exact ⟨_, rfl, outI_two _ _ _ _, newFrom_at (below_step (below_step (below_step HBW.out HB5.out) HB6.out) HB7.out).size, (below_step (below_step (below_step HBW.out HB5.out) HB6.out) HB7.out).alloc (below_step (below_step (below_step HBW.out HB5.out) HB6.out) HB7.out).size _⟩
    · have E2 : Hid (sharedF g ax ay bx by' cx cy = ([], Z)) := E1.out.trans (if_neg hz)
      have z0 : (Z != 0) = true := by simpa using hz
      clear hz
      simp only [shareV]
      go_wp2
      go_returns
      rw [E2.out]
      exact ⟨_, rfl, outI_nil _, newFrom_nil _, below_step (below_step (below_step HBW.out HB5.out) HB6.out) HB7.out⟩
end Go.Proofs.YtbfbifogamlepaaDoor
