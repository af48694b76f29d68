/-
  The chapter's own numbers (awake) come out true. Conditions: probe holds (1, 2, 3). By an AI agent.
-/
import Derived.Test.YtcfohnhieajhnaaDoorMeet
namespace Go.Proofs.YtcfohnhieajhnaaDoor
open Go.RowKit
set_option linter.unusedSimpArgs false

theorem aw0 (w : World) : Calls Tryd.prog 16 #[.agg #[.int .i64 0, .int .i64 0, .int .i64 0, .int .i64 4, .int .i64 4, .int .i64 4], .agg #[.int .i64 4, .int .i64 1, .int .i64 1, .int .i64 9, .int .i64 2, .int .i64 2]] w fun e w' => e = .returned (.tuple #[.agg #[.int .i64 4, .int .i64 1, .int .i64 1, .int .i64 4, .int .i64 2, .int .i64 2], .bool true]) ∧ Below w.heap.size w w' := by
  have h := Meet_any 0 0 0 4 4 4 4 1 1 9 2 2 w
  have e : (meetF 0 0 0 4 4 4 4 1 1 9 2 2, meetsF 0 0 0 4 4 4 4 1 1 9 2 2) = (((4, 1, 1), (4, 2, 2)), true) := by decide +kernel
  obtain ⟨e1, e2⟩ := Prod.mk.inj e
  rw [e1, e2] at h
  exact h
theorem aw1 (w : World) : Calls Tryd.prog 19 #[.agg #[.int .i64 1, .int .i64 2, .int .i64 3], .int .i64 1] w fun e w' => e = .returned (.agg #[.int .i64 (-2), .int .i64 1, .int .i64 3]) ∧ Below w.heap.size w w' := by
  have h := Turn_any 1 2 3 1 w
  have e : turnF (1, 2, 3) 1 = (-2, 1, 3) := by decide +kernel
  rw [e] at h
  exact h
theorem aw2 (w : World) : Calls Tryd.prog 19 #[.agg #[.int .i64 1, .int .i64 2, .int .i64 3], .int .i64 4] w fun e w' => e = .returned (.agg #[.int .i64 1, .int .i64 (-3), .int .i64 2]) ∧ Below w.heap.size w w' := by
  have h := Turn_any 1 2 3 4 w
  have e : turnF (1, 2, 3) 4 = (1, -3, 2) := by decide +kernel
  rw [e] at h
  exact h
theorem aw3 (w : World) (hp : ProbeIs w) : Calls Tryd.prog 11 #[.int .i64 1, .int .i64 4] w fun e w' => e = .returned (.int .i64 5) ∧ Below w.heap.size w w' := by
  have h := Compose_any 1 4 w hp
  have e : composeV 1 4 = 5 := by decide +kernel
  rw [e] at h
  exact h
theorem aw4 (w : World) (hp : ProbeIs w) : Calls Tryd.prog 11 #[.int .i64 4, .int .i64 1] w fun e w' => e = .returned (.int .i64 17) ∧ Below w.heap.size w w' := by
  have h := Compose_any 4 1 w hp
  have e : composeV 4 1 = 17 := by decide +kernel
  rw [e] at h
  exact h
theorem aw5 (w : World) (hp : ProbeIs w) : Calls Tryd.prog 13 #[.int .i64 1] w fun e w' => e = .returned (.int .i64 3) ∧ Below w.heap.size w w' := by
  have h := Back_any 1 w hp
  have e : backV 1 = 3 := by decide +kernel
  rw [e] at h
  exact h
theorem aw6 (w : World) : Calls Tryd.prog 22 #[.agg #[.int .i64 10, .int .i64 0, .int .i64 0, .int .i64 1], .agg #[.int .i64 1, .int .i64 0, .int .i64 0]] w fun e w' => e = .returned (.agg #[.int .i64 10, .int .i64 1, .int .i64 0]) ∧ Below w.heap.size w w' := by
  have h := Apply_any 10 0 0 1 1 0 0 w
  have e : applyF (10, 0, 0) 1 (1, 0, 0) = (10, 1, 0) := by decide +kernel
  rw [e] at h
  exact h
theorem aw7 (w : World) (hp : ProbeIs w) : Calls Tryd.prog 23 #[.agg #[.int .i64 10, .int .i64 0, .int .i64 0, .int .i64 1], .agg #[.int .i64 0, .int .i64 5, .int .i64 0, .int .i64 0]] w fun e w' => e = .returned (.agg #[.int .i64 10, .int .i64 5, .int .i64 0, .int .i64 1]) ∧ Below w.heap.size w w' := by
  have h := Then_any 10 0 0 1 0 5 0 0 w hp
  have e : thenF (10, 0, 0) 1 (0, 5, 0) 0 = ((10, 5, 0), 1) := by decide +kernel
  rw [e] at h
  exact h
theorem aw8 (w : World) (hp : ProbeIs w) : Calls Tryd.prog 24 #[.agg #[.int .i64 10, .int .i64 0, .int .i64 0, .int .i64 1]] w fun e w' => e = .returned (.agg #[.int .i64 0, .int .i64 10, .int .i64 0, .int .i64 3]) ∧ Below w.heap.size w w' := by
  have h := Inverse_any 10 0 0 1 w hp
  have e : inverseF (10, 0, 0) 1 = ((0, 10, 0), 3) := by decide +kernel
  rw [e] at h
  exact h
theorem aw9 (w : World) : Calls Tryd.prog 33 #[.agg #[.int .i64 1, .int .i64 2, .int .i64 3], .agg #[.int .i64 0, .int .i64 5, .int .i64 3]] w fun e w' => e = .returned (.agg #[.int .i64 1, .int .i64 (-3), .int .i64 0]) ∧ Below w.heap.size w w' := by
  have h := Sub_any 1 2 3 0 5 3 w
  have e : subF (1, 2, 3) (0, 5, 3) = (1, -3, 0) := by decide +kernel
  rw [e] at h
  exact h

set_option maxRecDepth 100000 in
set_option maxHeartbeats 2000000 in
theorem awake_any (w : World) (hp : ProbeIs w) :
    Calls Tryd.prog 15 #[] w fun e w' => e = .returned (.bool true) ∧ Below w.heap.size w w' := by
  have HP := Lib.hid hp
  clear hp
  go_enter Tryd.func15, Tryd.ntmps15
  go_wp2_with fail
  (go_at_call 16; refine (aw0 _).mono ?_; rintro e w1 ⟨rfl, hb⟩)
  have hB := below_step (w := w) (by go_grown) hb
  have hz := hb.size
  simp only [World.size_alloc] at hz
  obtain ⟨hc, hf⟩ := bcell hb
  clear hb
  have p00 : w1.cell? ⟨w.heap.size, 0, none⟩ = some (.int .i64 10) := by rw [hc _ _ (by first | (simp; done) | (simp; omega))]; simp [go_sem]
  have p01 : w1.cell? ⟨w.heap.size, 1, none⟩ = some (.int .i64 0) := by rw [hc _ _ (by first | (simp; done) | (simp; omega))]; simp [go_sem]
  have p02 : w1.cell? ⟨w.heap.size, 2, none⟩ = some (.int .i64 0) := by rw [hc _ _ (by first | (simp; done) | (simp; omega))]; simp [go_sem]
  have p03 : w1.cell? ⟨w.heap.size, 3, none⟩ = some (.int .i64 1) := by rw [hc _ _ (by first | (simp; done) | (simp; omega))]; simp [go_sem]
  have p10 : w1.cell? ⟨w.heap.size + 1, 0, none⟩ = some (.int .i64 1) := by rw [hc _ _ (by first | (simp; done) | (simp; omega))]; simp [go_sem]
  have p11 : w1.cell? ⟨w.heap.size + 1, 1, none⟩ = some (.int .i64 2) := by rw [hc _ _ (by first | (simp; done) | (simp; omega))]; simp [go_sem]
  have p12 : w1.cell? ⟨w.heap.size + 1, 2, none⟩ = some (.int .i64 3) := by rw [hc _ _ (by first | (simp; done) | (simp; omega))]; simp [go_sem]
  have hs0 : w.heap.size < w1.heap.size := by omega
  have hs1 : w.heap.size + 1 < w1.heap.size := by omega
  clear hc hf hz
  go_wp2_with fail
  (go_at_call 19; refine (aw1 _).mono ?_; rintro e v1 ⟨rfl, hb⟩)
  have hB1 := below_step (w := w) (by first | assumption | go_grown) hb
  have q100 : v1.cell? ⟨w.heap.size, 0, none⟩ = some (.int .i64 10) := by rw [hb.cell (p := ⟨_, _, none⟩) (by first | (simp; done) | (simp; omega))]; simp [go_sem, *]
  have q101 : v1.cell? ⟨w.heap.size, 1, none⟩ = some (.int .i64 0) := by rw [hb.cell (p := ⟨_, _, none⟩) (by first | (simp; done) | (simp; omega))]; simp [go_sem, *]
  have q102 : v1.cell? ⟨w.heap.size, 2, none⟩ = some (.int .i64 0) := by rw [hb.cell (p := ⟨_, _, none⟩) (by first | (simp; done) | (simp; omega))]; simp [go_sem, *]
  have q103 : v1.cell? ⟨w.heap.size, 3, none⟩ = some (.int .i64 1) := by rw [hb.cell (p := ⟨_, _, none⟩) (by first | (simp; done) | (simp; omega))]; simp [go_sem, *]
  have q110 : v1.cell? ⟨w.heap.size + 1, 0, none⟩ = some (.int .i64 1) := by rw [hb.cell (p := ⟨_, _, none⟩) (by first | (simp; done) | (simp; omega))]; simp [go_sem, *]
  have q111 : v1.cell? ⟨w.heap.size + 1, 1, none⟩ = some (.int .i64 2) := by rw [hb.cell (p := ⟨_, _, none⟩) (by first | (simp; done) | (simp; omega))]; simp [go_sem, *]
  have q112 : v1.cell? ⟨w.heap.size + 1, 2, none⟩ = some (.int .i64 3) := by rw [hb.cell (p := ⟨_, _, none⟩) (by first | (simp; done) | (simp; omega))]; simp [go_sem, *]
  have q120 : v1.cell? ⟨w1.heap.size, 0, none⟩ = some (.int .i64 4) := by rw [hb.cell (p := ⟨_, _, none⟩) (by first | (simp; done) | (simp; omega))]; simp [go_sem, *]
  have q121 : v1.cell? ⟨w1.heap.size, 1, none⟩ = some (.int .i64 1) := by rw [hb.cell (p := ⟨_, _, none⟩) (by first | (simp; done) | (simp; omega))]; simp [go_sem, *]
  have q122 : v1.cell? ⟨w1.heap.size, 2, none⟩ = some (.int .i64 1) := by rw [hb.cell (p := ⟨_, _, none⟩) (by first | (simp; done) | (simp; omega))]; simp [go_sem, *]
  have q123 : v1.cell? ⟨w1.heap.size, 3, none⟩ = some (.int .i64 4) := by rw [hb.cell (p := ⟨_, _, none⟩) (by first | (simp; done) | (simp; omega))]; simp [go_sem, *]
  have q124 : v1.cell? ⟨w1.heap.size, 4, none⟩ = some (.int .i64 2) := by rw [hb.cell (p := ⟨_, _, none⟩) (by first | (simp; done) | (simp; omega))]; simp [go_sem, *]
  have q125 : v1.cell? ⟨w1.heap.size, 5, none⟩ = some (.int .i64 2) := by rw [hb.cell (p := ⟨_, _, none⟩) (by first | (simp; done) | (simp; omega))]; simp [go_sem, *]
  have hz := hb.size
  simp at hz
  have r10 : w.heap.size < v1.heap.size := by omega
  have r11 : w.heap.size + 1 < v1.heap.size := by omega
  have r12 : w1.heap.size < v1.heap.size := by omega
  clear hb hz p00 p01 p02 p03 p10 p11 p12 hs0 hs1
  go_wp2_with fail
  (go_at_call 19; refine (aw2 _).mono ?_; rintro e v2 ⟨rfl, hb⟩)
  have hB2 := below_step (w := w) (by first | assumption | go_grown) hb
  have q200 : v2.cell? ⟨w.heap.size, 0, none⟩ = some (.int .i64 10) := by rw [hb.cell (p := ⟨_, _, none⟩) (by omega)]; exact q100
  have q201 : v2.cell? ⟨w.heap.size, 1, none⟩ = some (.int .i64 0) := by rw [hb.cell (p := ⟨_, _, none⟩) (by omega)]; exact q101
  have q202 : v2.cell? ⟨w.heap.size, 2, none⟩ = some (.int .i64 0) := by rw [hb.cell (p := ⟨_, _, none⟩) (by omega)]; exact q102
  have q203 : v2.cell? ⟨w.heap.size, 3, none⟩ = some (.int .i64 1) := by rw [hb.cell (p := ⟨_, _, none⟩) (by omega)]; exact q103
  have q210 : v2.cell? ⟨w.heap.size + 1, 0, none⟩ = some (.int .i64 1) := by rw [hb.cell (p := ⟨_, _, none⟩) (by omega)]; exact q110
  have q211 : v2.cell? ⟨w.heap.size + 1, 1, none⟩ = some (.int .i64 2) := by rw [hb.cell (p := ⟨_, _, none⟩) (by omega)]; exact q111
  have q212 : v2.cell? ⟨w.heap.size + 1, 2, none⟩ = some (.int .i64 3) := by rw [hb.cell (p := ⟨_, _, none⟩) (by omega)]; exact q112
  have q220 : v2.cell? ⟨w1.heap.size, 0, none⟩ = some (.int .i64 4) := by rw [hb.cell (p := ⟨_, _, none⟩) (by omega)]; exact q120
  have q221 : v2.cell? ⟨w1.heap.size, 1, none⟩ = some (.int .i64 1) := by rw [hb.cell (p := ⟨_, _, none⟩) (by omega)]; exact q121
  have q222 : v2.cell? ⟨w1.heap.size, 2, none⟩ = some (.int .i64 1) := by rw [hb.cell (p := ⟨_, _, none⟩) (by omega)]; exact q122
  have q223 : v2.cell? ⟨w1.heap.size, 3, none⟩ = some (.int .i64 4) := by rw [hb.cell (p := ⟨_, _, none⟩) (by omega)]; exact q123
  have q224 : v2.cell? ⟨w1.heap.size, 4, none⟩ = some (.int .i64 2) := by rw [hb.cell (p := ⟨_, _, none⟩) (by omega)]; exact q124
  have q225 : v2.cell? ⟨w1.heap.size, 5, none⟩ = some (.int .i64 2) := by rw [hb.cell (p := ⟨_, _, none⟩) (by omega)]; exact q125
  have hz := hb.size
  have r20 : w.heap.size < v2.heap.size := by omega
  have r21 : w.heap.size + 1 < v2.heap.size := by omega
  have r22 : w1.heap.size < v2.heap.size := by omega
  clear hb hz r10 r11 r12 hB1 q100 q101 q102 q103 q110 q111 q112 q120 q121 q122 q123 q124 q125
  go_wp2_with fail
  (go_at_call 11; refine (aw3 _ (HP.out.below (by first | assumption | go_grown))).mono ?_; rintro e v3 ⟨rfl, hb⟩)
  have hB3 := below_step (w := w) (by first | assumption | go_grown) hb
  have q300 : v3.cell? ⟨w.heap.size, 0, none⟩ = some (.int .i64 10) := by rw [hb.cell (p := ⟨_, _, none⟩) (by omega)]; exact q200
  have q301 : v3.cell? ⟨w.heap.size, 1, none⟩ = some (.int .i64 0) := by rw [hb.cell (p := ⟨_, _, none⟩) (by omega)]; exact q201
  have q302 : v3.cell? ⟨w.heap.size, 2, none⟩ = some (.int .i64 0) := by rw [hb.cell (p := ⟨_, _, none⟩) (by omega)]; exact q202
  have q303 : v3.cell? ⟨w.heap.size, 3, none⟩ = some (.int .i64 1) := by rw [hb.cell (p := ⟨_, _, none⟩) (by omega)]; exact q203
  have q310 : v3.cell? ⟨w.heap.size + 1, 0, none⟩ = some (.int .i64 1) := by rw [hb.cell (p := ⟨_, _, none⟩) (by omega)]; exact q210
  have q311 : v3.cell? ⟨w.heap.size + 1, 1, none⟩ = some (.int .i64 2) := by rw [hb.cell (p := ⟨_, _, none⟩) (by omega)]; exact q211
  have q312 : v3.cell? ⟨w.heap.size + 1, 2, none⟩ = some (.int .i64 3) := by rw [hb.cell (p := ⟨_, _, none⟩) (by omega)]; exact q212
  have q320 : v3.cell? ⟨w1.heap.size, 0, none⟩ = some (.int .i64 4) := by rw [hb.cell (p := ⟨_, _, none⟩) (by omega)]; exact q220
  have q321 : v3.cell? ⟨w1.heap.size, 1, none⟩ = some (.int .i64 1) := by rw [hb.cell (p := ⟨_, _, none⟩) (by omega)]; exact q221
  have q322 : v3.cell? ⟨w1.heap.size, 2, none⟩ = some (.int .i64 1) := by rw [hb.cell (p := ⟨_, _, none⟩) (by omega)]; exact q222
  have q323 : v3.cell? ⟨w1.heap.size, 3, none⟩ = some (.int .i64 4) := by rw [hb.cell (p := ⟨_, _, none⟩) (by omega)]; exact q223
  have q324 : v3.cell? ⟨w1.heap.size, 4, none⟩ = some (.int .i64 2) := by rw [hb.cell (p := ⟨_, _, none⟩) (by omega)]; exact q224
  have q325 : v3.cell? ⟨w1.heap.size, 5, none⟩ = some (.int .i64 2) := by rw [hb.cell (p := ⟨_, _, none⟩) (by omega)]; exact q225
  have hz := hb.size
  have r30 : w.heap.size < v3.heap.size := by omega
  have r31 : w.heap.size + 1 < v3.heap.size := by omega
  have r32 : w1.heap.size < v3.heap.size := by omega
  clear hb hz r20 r21 r22 hB2 q200 q201 q202 q203 q210 q211 q212 q220 q221 q222 q223 q224 q225
  go_wp2_with fail
  (go_at_call 11; refine (aw4 _ (HP.out.below (by first | assumption | go_grown))).mono ?_; rintro e v4 ⟨rfl, hb⟩)
  have hB4 := below_step (w := w) (by first | assumption | go_grown) hb
  have q400 : v4.cell? ⟨w.heap.size, 0, none⟩ = some (.int .i64 10) := by rw [hb.cell (p := ⟨_, _, none⟩) (by omega)]; exact q300
  have q401 : v4.cell? ⟨w.heap.size, 1, none⟩ = some (.int .i64 0) := by rw [hb.cell (p := ⟨_, _, none⟩) (by omega)]; exact q301
  have q402 : v4.cell? ⟨w.heap.size, 2, none⟩ = some (.int .i64 0) := by rw [hb.cell (p := ⟨_, _, none⟩) (by omega)]; exact q302
  have q403 : v4.cell? ⟨w.heap.size, 3, none⟩ = some (.int .i64 1) := by rw [hb.cell (p := ⟨_, _, none⟩) (by omega)]; exact q303
  have q410 : v4.cell? ⟨w.heap.size + 1, 0, none⟩ = some (.int .i64 1) := by rw [hb.cell (p := ⟨_, _, none⟩) (by omega)]; exact q310
  have q411 : v4.cell? ⟨w.heap.size + 1, 1, none⟩ = some (.int .i64 2) := by rw [hb.cell (p := ⟨_, _, none⟩) (by omega)]; exact q311
  have q412 : v4.cell? ⟨w.heap.size + 1, 2, none⟩ = some (.int .i64 3) := by rw [hb.cell (p := ⟨_, _, none⟩) (by omega)]; exact q312
  have q420 : v4.cell? ⟨w1.heap.size, 0, none⟩ = some (.int .i64 4) := by rw [hb.cell (p := ⟨_, _, none⟩) (by omega)]; exact q320
  have q421 : v4.cell? ⟨w1.heap.size, 1, none⟩ = some (.int .i64 1) := by rw [hb.cell (p := ⟨_, _, none⟩) (by omega)]; exact q321
  have q422 : v4.cell? ⟨w1.heap.size, 2, none⟩ = some (.int .i64 1) := by rw [hb.cell (p := ⟨_, _, none⟩) (by omega)]; exact q322
  have q423 : v4.cell? ⟨w1.heap.size, 3, none⟩ = some (.int .i64 4) := by rw [hb.cell (p := ⟨_, _, none⟩) (by omega)]; exact q323
  have q424 : v4.cell? ⟨w1.heap.size, 4, none⟩ = some (.int .i64 2) := by rw [hb.cell (p := ⟨_, _, none⟩) (by omega)]; exact q324
  have q425 : v4.cell? ⟨w1.heap.size, 5, none⟩ = some (.int .i64 2) := by rw [hb.cell (p := ⟨_, _, none⟩) (by omega)]; exact q325
  have hz := hb.size
  have r40 : w.heap.size < v4.heap.size := by omega
  have r41 : w.heap.size + 1 < v4.heap.size := by omega
  have r42 : w1.heap.size < v4.heap.size := by omega
  clear hb hz r30 r31 r32 hB3 q300 q301 q302 q303 q310 q311 q312 q320 q321 q322 q323 q324 q325
  go_wp2_with fail
  (go_at_call 13; refine (aw5 _ (HP.out.below (by first | assumption | go_grown))).mono ?_; rintro e v5 ⟨rfl, hb⟩)
  have hB5 := below_step (w := w) (by first | assumption | go_grown) hb
  have q500 : v5.cell? ⟨w.heap.size, 0, none⟩ = some (.int .i64 10) := by rw [hb.cell (p := ⟨_, _, none⟩) (by omega)]; exact q400
  have q501 : v5.cell? ⟨w.heap.size, 1, none⟩ = some (.int .i64 0) := by rw [hb.cell (p := ⟨_, _, none⟩) (by omega)]; exact q401
  have q502 : v5.cell? ⟨w.heap.size, 2, none⟩ = some (.int .i64 0) := by rw [hb.cell (p := ⟨_, _, none⟩) (by omega)]; exact q402
  have q503 : v5.cell? ⟨w.heap.size, 3, none⟩ = some (.int .i64 1) := by rw [hb.cell (p := ⟨_, _, none⟩) (by omega)]; exact q403
  have q510 : v5.cell? ⟨w.heap.size + 1, 0, none⟩ = some (.int .i64 1) := by rw [hb.cell (p := ⟨_, _, none⟩) (by omega)]; exact q410
  have q511 : v5.cell? ⟨w.heap.size + 1, 1, none⟩ = some (.int .i64 2) := by rw [hb.cell (p := ⟨_, _, none⟩) (by omega)]; exact q411
  have q512 : v5.cell? ⟨w.heap.size + 1, 2, none⟩ = some (.int .i64 3) := by rw [hb.cell (p := ⟨_, _, none⟩) (by omega)]; exact q412
  have q520 : v5.cell? ⟨w1.heap.size, 0, none⟩ = some (.int .i64 4) := by rw [hb.cell (p := ⟨_, _, none⟩) (by omega)]; exact q420
  have q521 : v5.cell? ⟨w1.heap.size, 1, none⟩ = some (.int .i64 1) := by rw [hb.cell (p := ⟨_, _, none⟩) (by omega)]; exact q421
  have q522 : v5.cell? ⟨w1.heap.size, 2, none⟩ = some (.int .i64 1) := by rw [hb.cell (p := ⟨_, _, none⟩) (by omega)]; exact q422
  have q523 : v5.cell? ⟨w1.heap.size, 3, none⟩ = some (.int .i64 4) := by rw [hb.cell (p := ⟨_, _, none⟩) (by omega)]; exact q423
  have q524 : v5.cell? ⟨w1.heap.size, 4, none⟩ = some (.int .i64 2) := by rw [hb.cell (p := ⟨_, _, none⟩) (by omega)]; exact q424
  have q525 : v5.cell? ⟨w1.heap.size, 5, none⟩ = some (.int .i64 2) := by rw [hb.cell (p := ⟨_, _, none⟩) (by omega)]; exact q425
  have hz := hb.size
  have r50 : w.heap.size < v5.heap.size := by omega
  have r51 : w.heap.size + 1 < v5.heap.size := by omega
  have r52 : w1.heap.size < v5.heap.size := by omega
  clear hb hz r40 r41 r42 hB4 q400 q401 q402 q403 q410 q411 q412 q420 q421 q422 q423 q424 q425
  go_wp2_with fail
  (go_at_call 22; refine (aw6 _).mono ?_; rintro e v6 ⟨rfl, hb⟩)
  have hB6 := below_step (w := w) (by first | assumption | go_grown) hb
  have q600 : v6.cell? ⟨w.heap.size, 0, none⟩ = some (.int .i64 10) := by rw [hb.cell (p := ⟨_, _, none⟩) (by omega)]; exact q500
  have q601 : v6.cell? ⟨w.heap.size, 1, none⟩ = some (.int .i64 0) := by rw [hb.cell (p := ⟨_, _, none⟩) (by omega)]; exact q501
  have q602 : v6.cell? ⟨w.heap.size, 2, none⟩ = some (.int .i64 0) := by rw [hb.cell (p := ⟨_, _, none⟩) (by omega)]; exact q502
  have q603 : v6.cell? ⟨w.heap.size, 3, none⟩ = some (.int .i64 1) := by rw [hb.cell (p := ⟨_, _, none⟩) (by omega)]; exact q503
  have q610 : v6.cell? ⟨w.heap.size + 1, 0, none⟩ = some (.int .i64 1) := by rw [hb.cell (p := ⟨_, _, none⟩) (by omega)]; exact q510
  have q611 : v6.cell? ⟨w.heap.size + 1, 1, none⟩ = some (.int .i64 2) := by rw [hb.cell (p := ⟨_, _, none⟩) (by omega)]; exact q511
  have q612 : v6.cell? ⟨w.heap.size + 1, 2, none⟩ = some (.int .i64 3) := by rw [hb.cell (p := ⟨_, _, none⟩) (by omega)]; exact q512
  have q620 : v6.cell? ⟨w1.heap.size, 0, none⟩ = some (.int .i64 4) := by rw [hb.cell (p := ⟨_, _, none⟩) (by omega)]; exact q520
  have q621 : v6.cell? ⟨w1.heap.size, 1, none⟩ = some (.int .i64 1) := by rw [hb.cell (p := ⟨_, _, none⟩) (by omega)]; exact q521
  have q622 : v6.cell? ⟨w1.heap.size, 2, none⟩ = some (.int .i64 1) := by rw [hb.cell (p := ⟨_, _, none⟩) (by omega)]; exact q522
  have q623 : v6.cell? ⟨w1.heap.size, 3, none⟩ = some (.int .i64 4) := by rw [hb.cell (p := ⟨_, _, none⟩) (by omega)]; exact q523
  have q624 : v6.cell? ⟨w1.heap.size, 4, none⟩ = some (.int .i64 2) := by rw [hb.cell (p := ⟨_, _, none⟩) (by omega)]; exact q524
  have q625 : v6.cell? ⟨w1.heap.size, 5, none⟩ = some (.int .i64 2) := by rw [hb.cell (p := ⟨_, _, none⟩) (by omega)]; exact q525
  have hz := hb.size
  have r60 : w.heap.size < v6.heap.size := by omega
  have r61 : w.heap.size + 1 < v6.heap.size := by omega
  have r62 : w1.heap.size < v6.heap.size := by omega
  clear hb hz r50 r51 r52 hB5 q500 q501 q502 q503 q510 q511 q512 q520 q521 q522 q523 q524 q525
  go_wp2_with fail
  (go_at_call 23; refine (aw7 _ (HP.out.below (by first | assumption | go_grown))).mono ?_; rintro e v7 ⟨rfl, hb⟩)
  have hB7 := below_step (w := w) (by first | assumption | go_grown) hb
  have q700 : v7.cell? ⟨w.heap.size, 0, none⟩ = some (.int .i64 10) := by rw [hb.cell (p := ⟨_, _, none⟩) (by omega)]; exact q600
  have q701 : v7.cell? ⟨w.heap.size, 1, none⟩ = some (.int .i64 0) := by rw [hb.cell (p := ⟨_, _, none⟩) (by omega)]; exact q601
  have q702 : v7.cell? ⟨w.heap.size, 2, none⟩ = some (.int .i64 0) := by rw [hb.cell (p := ⟨_, _, none⟩) (by omega)]; exact q602
  have q703 : v7.cell? ⟨w.heap.size, 3, none⟩ = some (.int .i64 1) := by rw [hb.cell (p := ⟨_, _, none⟩) (by omega)]; exact q603
  have q710 : v7.cell? ⟨w.heap.size + 1, 0, none⟩ = some (.int .i64 1) := by rw [hb.cell (p := ⟨_, _, none⟩) (by omega)]; exact q610
  have q711 : v7.cell? ⟨w.heap.size + 1, 1, none⟩ = some (.int .i64 2) := by rw [hb.cell (p := ⟨_, _, none⟩) (by omega)]; exact q611
  have q712 : v7.cell? ⟨w.heap.size + 1, 2, none⟩ = some (.int .i64 3) := by rw [hb.cell (p := ⟨_, _, none⟩) (by omega)]; exact q612
  have q720 : v7.cell? ⟨w1.heap.size, 0, none⟩ = some (.int .i64 4) := by rw [hb.cell (p := ⟨_, _, none⟩) (by omega)]; exact q620
  have q721 : v7.cell? ⟨w1.heap.size, 1, none⟩ = some (.int .i64 1) := by rw [hb.cell (p := ⟨_, _, none⟩) (by omega)]; exact q621
  have q722 : v7.cell? ⟨w1.heap.size, 2, none⟩ = some (.int .i64 1) := by rw [hb.cell (p := ⟨_, _, none⟩) (by omega)]; exact q622
  have q723 : v7.cell? ⟨w1.heap.size, 3, none⟩ = some (.int .i64 4) := by rw [hb.cell (p := ⟨_, _, none⟩) (by omega)]; exact q623
  have q724 : v7.cell? ⟨w1.heap.size, 4, none⟩ = some (.int .i64 2) := by rw [hb.cell (p := ⟨_, _, none⟩) (by omega)]; exact q624
  have q725 : v7.cell? ⟨w1.heap.size, 5, none⟩ = some (.int .i64 2) := by rw [hb.cell (p := ⟨_, _, none⟩) (by omega)]; exact q625
  have hz := hb.size
  have r70 : w.heap.size < v7.heap.size := by omega
  have r71 : w.heap.size + 1 < v7.heap.size := by omega
  have r72 : w1.heap.size < v7.heap.size := by omega
  clear hb hz r60 r61 r62 hB6 q600 q601 q602 q603 q610 q611 q612 q620 q621 q622 q623 q624 q625
  go_wp2_with fail
  (go_at_call 24; refine (aw8 _ (HP.out.below (by first | assumption | go_grown))).mono ?_; rintro e v8 ⟨rfl, hb⟩)
  have hB8 := below_step (w := w) (by first | assumption | go_grown) hb
  have q800 : v8.cell? ⟨w.heap.size, 0, none⟩ = some (.int .i64 10) := by rw [hb.cell (p := ⟨_, _, none⟩) (by omega)]; exact q700
  have q801 : v8.cell? ⟨w.heap.size, 1, none⟩ = some (.int .i64 0) := by rw [hb.cell (p := ⟨_, _, none⟩) (by omega)]; exact q701
  have q802 : v8.cell? ⟨w.heap.size, 2, none⟩ = some (.int .i64 0) := by rw [hb.cell (p := ⟨_, _, none⟩) (by omega)]; exact q702
  have q803 : v8.cell? ⟨w.heap.size, 3, none⟩ = some (.int .i64 1) := by rw [hb.cell (p := ⟨_, _, none⟩) (by omega)]; exact q703
  have q810 : v8.cell? ⟨w.heap.size + 1, 0, none⟩ = some (.int .i64 1) := by rw [hb.cell (p := ⟨_, _, none⟩) (by omega)]; exact q710
  have q811 : v8.cell? ⟨w.heap.size + 1, 1, none⟩ = some (.int .i64 2) := by rw [hb.cell (p := ⟨_, _, none⟩) (by omega)]; exact q711
  have q812 : v8.cell? ⟨w.heap.size + 1, 2, none⟩ = some (.int .i64 3) := by rw [hb.cell (p := ⟨_, _, none⟩) (by omega)]; exact q712
  have q820 : v8.cell? ⟨w1.heap.size, 0, none⟩ = some (.int .i64 4) := by rw [hb.cell (p := ⟨_, _, none⟩) (by omega)]; exact q720
  have q821 : v8.cell? ⟨w1.heap.size, 1, none⟩ = some (.int .i64 1) := by rw [hb.cell (p := ⟨_, _, none⟩) (by omega)]; exact q721
  have q822 : v8.cell? ⟨w1.heap.size, 2, none⟩ = some (.int .i64 1) := by rw [hb.cell (p := ⟨_, _, none⟩) (by omega)]; exact q722
  have q823 : v8.cell? ⟨w1.heap.size, 3, none⟩ = some (.int .i64 4) := by rw [hb.cell (p := ⟨_, _, none⟩) (by omega)]; exact q723
  have q824 : v8.cell? ⟨w1.heap.size, 4, none⟩ = some (.int .i64 2) := by rw [hb.cell (p := ⟨_, _, none⟩) (by omega)]; exact q724
  have q825 : v8.cell? ⟨w1.heap.size, 5, none⟩ = some (.int .i64 2) := by rw [hb.cell (p := ⟨_, _, none⟩) (by omega)]; exact q725
  have hz := hb.size
  have r80 : w.heap.size < v8.heap.size := by omega
  have r81 : w.heap.size + 1 < v8.heap.size := by omega
  have r82 : w1.heap.size < v8.heap.size := by omega
  clear hb hz r70 r71 r72 hB7 q700 q701 q702 q703 q710 q711 q712 q720 q721 q722 q723 q724 q725
  go_wp2_with fail
  (go_at_call 33; refine (aw9 _).mono ?_; rintro e v9 ⟨rfl, hb⟩)
  have hB9 := below_step (w := w) (by first | assumption | go_grown) hb
  have q900 : v9.cell? ⟨w.heap.size, 0, none⟩ = some (.int .i64 10) := by rw [hb.cell (p := ⟨_, _, none⟩) (by omega)]; exact q800
  have q901 : v9.cell? ⟨w.heap.size, 1, none⟩ = some (.int .i64 0) := by rw [hb.cell (p := ⟨_, _, none⟩) (by omega)]; exact q801
  have q902 : v9.cell? ⟨w.heap.size, 2, none⟩ = some (.int .i64 0) := by rw [hb.cell (p := ⟨_, _, none⟩) (by omega)]; exact q802
  have q903 : v9.cell? ⟨w.heap.size, 3, none⟩ = some (.int .i64 1) := by rw [hb.cell (p := ⟨_, _, none⟩) (by omega)]; exact q803
  have q910 : v9.cell? ⟨w.heap.size + 1, 0, none⟩ = some (.int .i64 1) := by rw [hb.cell (p := ⟨_, _, none⟩) (by omega)]; exact q810
  have q911 : v9.cell? ⟨w.heap.size + 1, 1, none⟩ = some (.int .i64 2) := by rw [hb.cell (p := ⟨_, _, none⟩) (by omega)]; exact q811
  have q912 : v9.cell? ⟨w.heap.size + 1, 2, none⟩ = some (.int .i64 3) := by rw [hb.cell (p := ⟨_, _, none⟩) (by omega)]; exact q812
  have q920 : v9.cell? ⟨w1.heap.size, 0, none⟩ = some (.int .i64 4) := by rw [hb.cell (p := ⟨_, _, none⟩) (by omega)]; exact q820
  have q921 : v9.cell? ⟨w1.heap.size, 1, none⟩ = some (.int .i64 1) := by rw [hb.cell (p := ⟨_, _, none⟩) (by omega)]; exact q821
  have q922 : v9.cell? ⟨w1.heap.size, 2, none⟩ = some (.int .i64 1) := by rw [hb.cell (p := ⟨_, _, none⟩) (by omega)]; exact q822
  have q923 : v9.cell? ⟨w1.heap.size, 3, none⟩ = some (.int .i64 4) := by rw [hb.cell (p := ⟨_, _, none⟩) (by omega)]; exact q823
  have q924 : v9.cell? ⟨w1.heap.size, 4, none⟩ = some (.int .i64 2) := by rw [hb.cell (p := ⟨_, _, none⟩) (by omega)]; exact q824
  have q925 : v9.cell? ⟨w1.heap.size, 5, none⟩ = some (.int .i64 2) := by rw [hb.cell (p := ⟨_, _, none⟩) (by omega)]; exact q825
  have hz := hb.size
  have r90 : w.heap.size < v9.heap.size := by omega
  have r91 : w.heap.size + 1 < v9.heap.size := by omega
  have r92 : w1.heap.size < v9.heap.size := by omega
  clear hb hz r80 r81 r82 hB8 q800 q801 q802 q803 q810 q811 q812 q820 q821 q822 q823 q824 q825
  go_wp2
  go_returns
  exact ⟨rfl, by first | assumption | go_grown⟩
end Go.Proofs.YtcfohnhieajhnaaDoor
