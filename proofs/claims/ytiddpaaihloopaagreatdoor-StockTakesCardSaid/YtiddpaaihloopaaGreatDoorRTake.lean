/-
  The reference's TakeSheet and TakeBar, by walks. Conditions: an ascending stock of at most 10^6 elements, identifiers of at most 2^31 bytes. By an AI agent.
-/
import Derived.Test.YtiddpaaihloopaaGreatDoorRAddA
namespace Go.Proofs.YtiddpaaihloopaaGreatDoor
open Go Go.ChangeShapes Go.WideShapes Go.RowKit Go.ChangeAt
set_option linter.unusedVariables false
set_option linter.unusedSimpArgs false
set_option maxRecDepth 100000
theorem kept_slice {pre : List PreRow} {w0 w : World} {v : Value} {n sz : Nat} {f : Nat → Nat → Value} {B : Nat} (hk : Kept pre w0 w) (h : SliceAt w0 v n sz f) (hn : NewFrom B v) (hp : ∀ r ∈ pre, r.blk < B) : SliceAt w v n sz f := by
  obtain ⟨oa, cap, h1, h2, h3, h4⟩ := h
  refine ⟨oa, cap, h1, h2, h3, fun h0 => ?_⟩
  obtain ⟨b', off, e, hlt, hc⟩ := h4 h0
  have hb' : B ≤ b' := hn b' (by rw [h1, e]; rfl)
  refine ⟨b', off, e, Nat.lt_of_lt_of_le hlt hk.size, fun i j hi hj => ?_⟩
  exact ((hk.cell b' hlt (fun r hr => by have := hp r hr; omega)).1 _).trans (hc i j hi hj)
theorem kept_sh {pre : List PreRow} {w0 w : World} {v : Value} {n : Nat} {e : Nat → Sh} {B : Nat} (hk : Kept pre w0 w) (h : ShAt w0 v n e) (hn : NewFrom B v) (hp : ∀ r ∈ pre, r.blk < B) : ShAt w v n e := kept_slice hk h hn hp
theorem kept_br {pre : List PreRow} {w0 w : World} {v : Value} {n : Nat} {e : Nat → Br} {B : Nat} (hk : Kept pre w0 w) (h : BrAt w0 v n e) (hn : NewFrom B v) (hp : ∀ r ∈ pre, r.blk < B) : BrAt w v n e := kept_slice hk h hn hp

set_option maxHeartbeats 16000000 in
theorem RTakeSheet_any (v : Value) (ns : Nat) (es : Nat → Sh) (nb : Nat) (eb : Nat → Br) (s : ByteArray) (w : World) (h : StAt w v ns es nb eb) (n1 : ns ≤ 1000000) (n2 : nb ≤ 1000000) (ha : AscB Sh.id es ns) :
    Calls Tryz.prog 15 #[v, .string s] w fun e w' => ∃ v', e = .returned (.tuple #[v', (takeV Sh.id Sh.none es ns s).val, .int .i64 (takeE Sh.id es ns s)]) ∧ StAt w' v' (if takeE Sh.id es ns s = 0 then ns - 1 else 0) (delF es (placeI Sh.id es ns s)) (if takeE Sh.id es ns s = 0 then nb else 0) eb ∧ Below w.heap.size w w' := by
  have HASC := Lib.hid ha
  have HST := Lib.hid h
  obtain ⟨va, vb, rfl, hSh, hBr⟩ := h
  have HSH := Lib.hid hSh
  have HBR := Lib.hid hBr
  obtain ⟨oa, ca, rfl, hna, hca, hela⟩ := hSh.form
  obtain ⟨ob, cb, rfl, hnb, hcb, helb⟩ := hBr.form
  obtain ⟨iSheet, hiSheet, hz0Sheet, hz1Sheet, hz2Sheet⟩ := info_parts info_Sheet
  obtain ⟨iBar, hiBar, hz0Bar, hz1Bar, hz2Bar⟩ := info_parts info_Bar
  have HEL := Lib.hid hela
  obtain ⟨X, hX⟩ : ∃ X, takeV Sh.id Sh.none es ns s = X := ⟨_, rfl⟩
  obtain ⟨RR, hRR⟩ : ∃ RR, takeE Sh.id es ns s = RR := ⟨_, rfl⟩
  obtain ⟨AT, hAT⟩ : ∃ AT, atE Sh.id es ns s = AT := ⟨_, rfl⟩
  obtain ⟨K, hK⟩ : ∃ K, placeI Sh.id es ns s = K := ⟨_, rfl⟩
  have HX := Lib.hid hX
  have HRR := Lib.hid hRR
  have HAT := Lib.hid hAT
  have HK := Lib.hid hK
  rw [hX, hRR, hK]
  obtain ⟨NS, hNS⟩ : ∃ NS, (if RR = 0 then ns - 1 else 0) = NS := ⟨_, rfl⟩
  obtain ⟨NB, hNB⟩ : ∃ NB, (if RR = 0 then nb else 0) = NB := ⟨_, rfl⟩
  have HNS := Lib.hid hNS
  have HNB := Lib.hid hNB
  rw [hNS, hNB]
  clear hSh hBr ha hela helb hX hRR hAT hK hNS hNB
  go_enter Tryz.func15, Tryz.ntmps15
  go_wp2_with fail
  (go_at_call 33; refine (rat_Sheet _ ns es nb eb s _ (HST.out.below (by first | assumption | go_grown)) HASC.out).mono ?_; rintro e_ w1 ⟨rfl, hb⟩)
  rw [HAT.out]
  have hsw1 := hb.size
  (try simp only [World.size_alloc, World.size_setCell] at hsw1)
  have zzw1 : w.heap.size < w1.heap.size := by omega
  have hPw1 : Below w.heap.size w w1 := below_step (w := w) (by first | exact Below.refl _ _ | go_grown) hb
  have zsw1 : w.heap.size < w1.heap.size := by omega
  have s0w1 : w1.cell? ⟨w.heap.size, 0, none⟩ = some (.slice oa ns ca) := (hb.cell (p := ⟨_, _, none⟩) (by simp <;> omega)).trans (by simp [go_sem])
  have s1w1 : w1.cell? ⟨w.heap.size, 1, none⟩ = some (.slice ob nb cb) := (hb.cell (p := ⟨_, _, none⟩) (by simp <;> omega)).trans (by simp [go_sem])
  have zrw1 : w.heap.size + 1 < w1.heap.size := by omega
  have r0w1 : w1.cell? ⟨w.heap.size + 1, 0, none⟩ = some (.slice none 0 0) := (hb.cell (p := ⟨_, _, none⟩) (by simp <;> omega)).trans (by simp [go_sem])
  have r1w1 : w1.cell? ⟨w.heap.size + 1, 1, none⟩ = some (.slice none 0 0) := (hb.cell (p := ⟨_, _, none⟩) (by simp <;> omega)).trans (by simp [go_sem])
  have fr0w1 : w1.frozen? ⟨w.heap.size + 1, 0, none⟩ = false := (hb.frozen (p := ⟨_, _, none⟩) (by simp <;> omega)).trans (by simp [go_sem])
  have fr1w1 : w1.frozen? ⟨w.heap.size + 1, 1, none⟩ = false := (hb.frozen (p := ⟨_, _, none⟩) (by simp <;> omega)).trans (by simp [go_sem])
  have zxw1 : w.heap.size + 1 + 1 < w1.heap.size := by omega
  have x0w1 : w1.cell? ⟨w.heap.size + 1 + 1, 0, none⟩ = some (.string ⟨#[]⟩) := (hb.cell (p := ⟨_, _, none⟩) (by simp <;> omega)).trans (by simp [go_sem])
  have x1w1 : w1.cell? ⟨w.heap.size + 1 + 1, 1, none⟩ = some (.string ⟨#[]⟩) := (hb.cell (p := ⟨_, _, none⟩) (by simp <;> omega)).trans (by simp [go_sem])
  have x2w1 : w1.cell? ⟨w.heap.size + 1 + 1, 2, none⟩ = some (.int .i64 0) := (hb.cell (p := ⟨_, _, none⟩) (by simp <;> omega)).trans (by simp [go_sem])
  have x3w1 : w1.cell? ⟨w.heap.size + 1 + 1, 3, none⟩ = some (.int .i64 0) := (hb.cell (p := ⟨_, _, none⟩) (by simp <;> omega)).trans (by simp [go_sem])
  have x4w1 : w1.cell? ⟨w.heap.size + 1 + 1, 4, none⟩ = some (.int .i64 0) := (hb.cell (p := ⟨_, _, none⟩) (by simp <;> omega)).trans (by simp [go_sem])
  have x5w1 : w1.cell? ⟨w.heap.size + 1 + 1, 5, none⟩ = some (.string ⟨#[]⟩) := (hb.cell (p := ⟨_, _, none⟩) (by simp <;> omega)).trans (by simp [go_sem])
  have fx0w1 : w1.frozen? ⟨w.heap.size + 1 + 1, 0, none⟩ = false := (hb.frozen (p := ⟨_, _, none⟩) (by simp <;> omega)).trans (by simp [go_sem])
  have fx1w1 : w1.frozen? ⟨w.heap.size + 1 + 1, 1, none⟩ = false := (hb.frozen (p := ⟨_, _, none⟩) (by simp <;> omega)).trans (by simp [go_sem])
  have fx2w1 : w1.frozen? ⟨w.heap.size + 1 + 1, 2, none⟩ = false := (hb.frozen (p := ⟨_, _, none⟩) (by simp <;> omega)).trans (by simp [go_sem])
  have fx3w1 : w1.frozen? ⟨w.heap.size + 1 + 1, 3, none⟩ = false := (hb.frozen (p := ⟨_, _, none⟩) (by simp <;> omega)).trans (by simp [go_sem])
  have fx4w1 : w1.frozen? ⟨w.heap.size + 1 + 1, 4, none⟩ = false := (hb.frozen (p := ⟨_, _, none⟩) (by simp <;> omega)).trans (by simp [go_sem])
  have fx5w1 : w1.frozen? ⟨w.heap.size + 1 + 1, 5, none⟩ = false := (hb.frozen (p := ⟨_, _, none⟩) (by simp <;> omega)).trans (by simp [go_sem])
  have hBw1 : Below w.heap.size w w1 := below_step (w := w) (by first | assumption | go_grown) hb
  have HRB1 : Hid (w1.heap[w.heap.size + 1]? = some (.cells #[.slice none 0 0, .slice none 0 0] 25)) := (hb.block _ (by simp <;> omega)).trans (by rw [heapA_old _ _ _ (by simp), heapA_at _ _ _ (by simp)])
  clear hb hsw1 hPw1
  by_cases hfd : foundB Sh.id es ns s = true
  · have HZ : Hid (RR = 0 ∧ X = es K ∧ NS = ns - 1 ∧ NB = nb) := by
      have h1 : RR = 0 := by rw [← HRR.out]; unfold takeE; rw [if_pos hfd]
      exact ⟨h1, by rw [← HX.out, ← HK.out]; unfold takeV; rw [if_pos hfd], by rw [← HNS.out, if_pos h1], by rw [← HNB.out, if_pos h1]⟩
    have hKn : K < ns := by
      have h2 := hfd
      unfold foundB at h2
      rw [HK.out] at h2
      simp only [Bool.and_eq_true, decide_eq_true_eq] at h2
      exact h2.1
    obtain rfl : (K : Int) = AT := by
      have h2 := HAT.out
      unfold atE at h2
      rw [if_pos hfd, HK.out] at h2
      exact h2
    have k1 : decide ((K : Int) < 0) = false := decide_eq_false (by omega)
    have HKN : Hid (K ≤ ns) := Nat.le_of_lt hKn
    go_wp2_with fail
    (go_at_call 34; refine (rcopied_any _ ns es nb eb _ (HST.out.below (by first | assumption | go_grown)) n1 n2).mono ?_; rintro e_ w2 ⟨va', vb', rfl, hx1, hx2, hx3, hx4, hb⟩)
    have hsw2 := hb.size
    (try simp only [World.size_alloc, World.size_setCell] at hsw2)
    have zzw2 : w.heap.size < w2.heap.size := by omega
    have hPw2 : Below w1.heap.size w1 w2 := below_step (w := w1) (by first | exact Below.refl _ _ | go_grown) hb
    have zsw2 : w.heap.size < w2.heap.size := by omega
    have s0w2 : w2.cell? ⟨w.heap.size, 0, none⟩ = some (.slice oa ns ca) := (hPw2.cell (p := ⟨_, _, none⟩) zsw1).trans s0w1
    have s1w2 : w2.cell? ⟨w.heap.size, 1, none⟩ = some (.slice ob nb cb) := (hPw2.cell (p := ⟨_, _, none⟩) zsw1).trans s1w1
    have zrw2 : w.heap.size + 1 < w2.heap.size := by omega
    have r0w2 : w2.cell? ⟨w.heap.size + 1, 0, none⟩ = some (.slice none 0 0) := (hPw2.cell (p := ⟨_, _, none⟩) zrw1).trans r0w1
    have r1w2 : w2.cell? ⟨w.heap.size + 1, 1, none⟩ = some (.slice none 0 0) := (hPw2.cell (p := ⟨_, _, none⟩) zrw1).trans r1w1
    have fr0w2 : w2.frozen? ⟨w.heap.size + 1, 0, none⟩ = false := (hPw2.frozen (p := ⟨_, _, none⟩) zrw1).trans fr0w1
    have fr1w2 : w2.frozen? ⟨w.heap.size + 1, 1, none⟩ = false := (hPw2.frozen (p := ⟨_, _, none⟩) zrw1).trans fr1w1
    have zxw2 : w.heap.size + 1 + 1 < w2.heap.size := by omega
    have x0w2 : w2.cell? ⟨w.heap.size + 1 + 1, 0, none⟩ = some (.string ⟨#[]⟩) := (hPw2.cell (p := ⟨_, _, none⟩) zxw1).trans x0w1
    have x1w2 : w2.cell? ⟨w.heap.size + 1 + 1, 1, none⟩ = some (.string ⟨#[]⟩) := (hPw2.cell (p := ⟨_, _, none⟩) zxw1).trans x1w1
    have x2w2 : w2.cell? ⟨w.heap.size + 1 + 1, 2, none⟩ = some (.int .i64 0) := (hPw2.cell (p := ⟨_, _, none⟩) zxw1).trans x2w1
    have x3w2 : w2.cell? ⟨w.heap.size + 1 + 1, 3, none⟩ = some (.int .i64 0) := (hPw2.cell (p := ⟨_, _, none⟩) zxw1).trans x3w1
    have x4w2 : w2.cell? ⟨w.heap.size + 1 + 1, 4, none⟩ = some (.int .i64 0) := (hPw2.cell (p := ⟨_, _, none⟩) zxw1).trans x4w1
    have x5w2 : w2.cell? ⟨w.heap.size + 1 + 1, 5, none⟩ = some (.string ⟨#[]⟩) := (hPw2.cell (p := ⟨_, _, none⟩) zxw1).trans x5w1
    have fx0w2 : w2.frozen? ⟨w.heap.size + 1 + 1, 0, none⟩ = false := (hPw2.frozen (p := ⟨_, _, none⟩) zxw1).trans fx0w1
    have fx1w2 : w2.frozen? ⟨w.heap.size + 1 + 1, 1, none⟩ = false := (hPw2.frozen (p := ⟨_, _, none⟩) zxw1).trans fx1w1
    have fx2w2 : w2.frozen? ⟨w.heap.size + 1 + 1, 2, none⟩ = false := (hPw2.frozen (p := ⟨_, _, none⟩) zxw1).trans fx2w1
    have fx3w2 : w2.frozen? ⟨w.heap.size + 1 + 1, 3, none⟩ = false := (hPw2.frozen (p := ⟨_, _, none⟩) zxw1).trans fx3w1
    have fx4w2 : w2.frozen? ⟨w.heap.size + 1 + 1, 4, none⟩ = false := (hPw2.frozen (p := ⟨_, _, none⟩) zxw1).trans fx4w1
    have fx5w2 : w2.frozen? ⟨w.heap.size + 1 + 1, 5, none⟩ = false := (hPw2.frozen (p := ⟨_, _, none⟩) zxw1).trans fx5w1
    have hBw2 : Below w.heap.size w w2 := below_step (w := w) (by first | assumption | go_grown) hb
    have HRB2 : Hid (w2.heap[w.heap.size + 1]? = some (.cells #[.slice none 0 0, .slice none 0 0] 25)) := (hPw2.block _ zrw1).trans HRB1.out
    have hz2 := Lib.hid zrw1
    have hz3 := Lib.hid zxw1
    have H1 := Lib.hid hx1
    have H2 := Lib.hid hx2
    have H3 := Lib.hid hx3
    have H4 := Lib.hid hx4
    obtain ⟨o1, c1, rfl, -, -, -⟩ := hx1.form
    obtain ⟨o2, c2, rfl, -, -, -⟩ := hx2.form
    clear hx1 hx2 hx3 hx4
    clear hb hsw2 hPw2
    clear zsw1 zrw1 zxw1 s0w1 s1w1 r0w1 r1w1 x0w1 x1w1 x2w1 x3w1 x4w1 x5w1 fr0w1 fr1w1 fx0w1 fx1w1 fx2w1 fx3w1 fx4w1 fx5w1
    obtain ⟨p1, pc1, hs1, hh1⟩ := head_Sheet HSH.out HKN.out
    obtain ⟨p2, pc2, hs2, hh2⟩ := tail_Sheet (i := K + 1) HSH.out hKn
    have HS1 := Lib.hid hs1
    have HS2 := Lib.hid hs2
    have HH1 := Lib.hid hh1
    have HH2 := Lib.hid hh2
    clear hs1 hs2 hh1 hh2
    have hwr : IntKind.i64.wrap ((K : Int) + 1) = (K : Int) + 1 := IntWalk.i64_in _ (by omega)
    have HBW : Hid (Below w.heap.size w w2) := hBw2
    go_wp2_with fail
    refine wp_region_own 13 [(0, 5), (5, 11)] (by kernel_rfl) (by kernel_rfl) (by kernel_rfl) (by kernel_rfl) (by kernel_rfl) ?_
    simp only [List.take_succ_cons, List.take_zero, fillL, Act.put, List.setIfInBounds_toArray, List.set_cons_zero, List.set_cons_succ]
    refine relo_new (OwnS.row (w2.alloc (Obj.cells #[.slice o1 ns c1, .slice o2 nb c2] 25)).heap.size 31 6 0 []) ?_ ?_
    · intro u wx hb hd
      have hz := hb.size
      (try simp only [World.size_alloc, World.size_setCell] at hz)
      have hz0 : w.heap.size < wx.heap.size := by omega
      have hz1 : w.heap.size + 1 < wx.heap.size := by omega
      have hz2 : w.heap.size + 1 + 1 < wx.heap.size := by omega
      have hz3 : w2.heap.size < wx.heap.size := by omega
      obtain ⟨hc, hf⟩ := bcell hb
      have HBX := Lib.hid hb
      clear hb hz
      simp [depsO, Region.binds, updO, OwnS.is, OwnS.any, eaten, eats] at hd
      refine ⟨by simp [Region.wanted], ?_⟩
      go_simp
      exact ⟨(Below.refl _ _).alloc (Nat.le_refl _) _, ownsRow_built0 _ _ _ (by have := HBX.out.size; omega), fun b hb => by simp [OwnS.row, Value.ownBlock] at hb; omega⟩
    apply relo_is
    · intro u wx hb hd
      have hz := hb.size
      (try simp only [World.size_alloc, World.size_setCell] at hz)
      have hz0 : w.heap.size < wx.heap.size := by omega
      have hz1 : w.heap.size + 1 < wx.heap.size := by omega
      have hz2 : w.heap.size + 1 + 1 < wx.heap.size := by omega
      have hz3 : w2.heap.size < wx.heap.size := by omega
      obtain ⟨hc, hf⟩ := bcell hb
      have HBX := Lib.hid hb
      clear hb hz
      simp [depsO, Region.binds, updO, OwnS.is, OwnS.any, eaten, eats] at hd
      go_simp
      first | exact ⟨Below.refl _ _, rfl⟩ | rfl
    apply relo_is
    · intro u wx hb hd
      have hz := hb.size
      (try simp only [World.size_alloc, World.size_setCell] at hz)
      have hz0 : w.heap.size < wx.heap.size := by omega
      have hz1 : w.heap.size + 1 < wx.heap.size := by omega
      have hz2 : w.heap.size + 1 + 1 < wx.heap.size := by omega
      have hz3 : w2.heap.size < wx.heap.size := by omega
      obtain ⟨hc, hf⟩ := bcell hb
      have HBX := Lib.hid hb
      clear hb hz
      simp [depsO, Region.binds, updO, OwnS.is, OwnS.any, eaten, eats] at hd
      go_simp
      first | exact ⟨Below.refl _ _, rfl⟩ | rfl
    apply relo_is
    · intro u wx hb hd
      have hz := hb.size
      (try simp only [World.size_alloc, World.size_setCell] at hz)
      have hz0 : w.heap.size < wx.heap.size := by omega
      have hz1 : w.heap.size + 1 < wx.heap.size := by omega
      have hz2 : w.heap.size + 1 + 1 < wx.heap.size := by omega
      have hz3 : w2.heap.size < wx.heap.size := by omega
      obtain ⟨hc, hf⟩ := bcell hb
      have HBX := Lib.hid hb
      clear hb hz
      simp [depsO, Region.binds, updO, OwnS.is, OwnS.any, eaten, eats] at hd
      go_simp
      first | exact ⟨Below.refl _ _, rfl⟩ | rfl
    apply relo_is
    · intro u wx hb hd
      have hz := hb.size
      (try simp only [World.size_alloc, World.size_setCell] at hz)
      have hz0 : w.heap.size < wx.heap.size := by omega
      have hz1 : w.heap.size + 1 < wx.heap.size := by omega
      have hz2 : w.heap.size + 1 + 1 < wx.heap.size := by omega
      have hz3 : w2.heap.size < wx.heap.size := by omega
      obtain ⟨hc, hf⟩ := bcell hb
      have HBX := Lib.hid hb
      clear hb hz
      simp [depsO, Region.binds, updO, OwnS.is, OwnS.any, eaten, eats] at hd
      have hsl := HS1.out wx
      (try rw [show ((K + 1 : Nat) : Int) = (K : Int) + 1 by omega] at hsl)
      go_simp
      first | exact ⟨Below.refl _ _, rfl⟩ | rfl
    refine relo_append 0 (by decide) (by decide) (.tmp 18) (.tmp 22) 22 rfl rfl 31 iSheet _ 6 72 0 K [] (flatL Sh.enc ((rowL es ns).take K)) Tryz.underlying22 hiSheet hz0Sheet hz1Sheet hz2Sheet rfl (by decide) (fun v w h => h) (fun v b h => h) (by decide) (by have := HKN.out; unfold maxLen; omega) (by have := HKN.out; omega) (by rw [flatL_len Sh.enc_len, List.length_take, rowL_len, Nat.min_eq_left HKN.out]) (flatL_one Sh.enc_one _) ?_ ?_
    · intro u wx hb hd
      have hz := hb.size
      (try simp only [World.size_alloc, World.size_setCell] at hz)
      have hz0 : w.heap.size < wx.heap.size := by omega
      have hz1 : w.heap.size + 1 < wx.heap.size := by omega
      have hz2 : w.heap.size + 1 + 1 < wx.heap.size := by omega
      have hz3 : w2.heap.size < wx.heap.size := by omega
      obtain ⟨hc, hf⟩ := bcell hb
      have HBX := Lib.hid hb
      clear hb hz
      simp [depsO, Region.binds, updO, OwnS.is, OwnS.any, eaten, eats] at hd
      go_simp
      exact ⟨HH1.out.1, fun ad had j u hj => HH1.out.2 _ (below_step HBW.out (below_step (w := w2) (by go_grown) HBX.out)) ad had j u hj⟩
    apply relo_is
    · intro u wx hb hd
      have hz := hb.size
      (try simp only [World.size_alloc, World.size_setCell] at hz)
      have hz0 : w.heap.size < wx.heap.size := by omega
      have hz1 : w.heap.size + 1 < wx.heap.size := by omega
      have hz2 : w.heap.size + 1 + 1 < wx.heap.size := by omega
      have hz3 : w2.heap.size < wx.heap.size := by omega
      obtain ⟨hc, hf⟩ := bcell hb
      have HBX := Lib.hid hb
      clear hb hz
      simp [depsO, Region.binds, updO, OwnS.is, OwnS.any, eaten, eats] at hd
      go_simp
      first | exact ⟨Below.refl _ _, rfl⟩ | rfl
    apply relo_is
    · intro u wx hb hd
      have hz := hb.size
      (try simp only [World.size_alloc, World.size_setCell] at hz)
      have hz0 : w.heap.size < wx.heap.size := by omega
      have hz1 : w.heap.size + 1 < wx.heap.size := by omega
      have hz2 : w.heap.size + 1 + 1 < wx.heap.size := by omega
      have hz3 : w2.heap.size < wx.heap.size := by omega
      obtain ⟨hc, hf⟩ := bcell hb
      have HBX := Lib.hid hb
      clear hb hz
      simp [depsO, Region.binds, updO, OwnS.is, OwnS.any, eaten, eats] at hd
      go_simp
      first | exact ⟨Below.refl _ _, rfl⟩ | rfl
    apply relo_is
    · intro u wx hb hd
      have hz := hb.size
      (try simp only [World.size_alloc, World.size_setCell] at hz)
      have hz0 : w.heap.size < wx.heap.size := by omega
      have hz1 : w.heap.size + 1 < wx.heap.size := by omega
      have hz2 : w.heap.size + 1 + 1 < wx.heap.size := by omega
      have hz3 : w2.heap.size < wx.heap.size := by omega
      obtain ⟨hc, hf⟩ := bcell hb
      have HBX := Lib.hid hb
      clear hb hz
      simp [depsO, Region.binds, updO, OwnS.is, OwnS.any, eaten, eats] at hd
      go_simp
      first | exact ⟨Below.refl _ _, rfl⟩ | rfl
    apply relo_is
    · intro u wx hb hd
      have hz := hb.size
      (try simp only [World.size_alloc, World.size_setCell] at hz)
      have hz0 : w.heap.size < wx.heap.size := by omega
      have hz1 : w.heap.size + 1 < wx.heap.size := by omega
      have hz2 : w.heap.size + 1 + 1 < wx.heap.size := by omega
      have hz3 : w2.heap.size < wx.heap.size := by omega
      obtain ⟨hc, hf⟩ := bcell hb
      have HBX := Lib.hid hb
      clear hb hz
      simp [depsO, Region.binds, updO, OwnS.is, OwnS.any, eaten, eats] at hd
      go_simp
      first | exact ⟨Below.refl _ _, rfl⟩ | rfl
    apply relo_is
    · intro u wx hb hd
      have hz := hb.size
      (try simp only [World.size_alloc, World.size_setCell] at hz)
      have hz0 : w.heap.size < wx.heap.size := by omega
      have hz1 : w.heap.size + 1 < wx.heap.size := by omega
      have hz2 : w.heap.size + 1 + 1 < wx.heap.size := by omega
      have hz3 : w2.heap.size < wx.heap.size := by omega
      obtain ⟨hc, hf⟩ := bcell hb
      have HBX := Lib.hid hb
      clear hb hz
      simp [depsO, Region.binds, updO, OwnS.is, OwnS.any, eaten, eats] at hd
      have hsl := HS2.out wx
      (try rw [show ((K + 1 : Nat) : Int) = (K : Int) + 1 by omega] at hsl)
      go_simp
      first | exact ⟨Below.refl _ _, rfl⟩ | rfl
    refine relo_append 5 (by decide) (by decide) (.tmp 23) (.tmp 28) 22 rfl rfl 31 iSheet _ 6 72 (0 + K) (ns - (K + 1)) _ (flatL Sh.enc ((rowL es ns).drop (K + 1))) Tryz.underlying22 hiSheet hz0Sheet hz1Sheet hz2Sheet rfl (by decide) (fun v w h => h) (fun v b h => h) (by decide) (by have := HKN.out; unfold maxLen; omega) (by have := HKN.out; omega) (by rw [flatL_len Sh.enc_len, List.length_drop, rowL_len]) (flatL_one Sh.enc_one _) ?_ ?_
    · intro u wx hb hd
      have hz := hb.size
      (try simp only [World.size_alloc, World.size_setCell] at hz)
      have hz0 : w.heap.size < wx.heap.size := by omega
      have hz1 : w.heap.size + 1 < wx.heap.size := by omega
      have hz2 : w.heap.size + 1 + 1 < wx.heap.size := by omega
      have hz3 : w2.heap.size < wx.heap.size := by omega
      obtain ⟨hc, hf⟩ := bcell hb
      have HBX := Lib.hid hb
      clear hb hz
      simp [depsO, Region.binds, updO, OwnS.is, OwnS.any, eaten, eats] at hd
      go_simp
      exact ⟨HH2.out.1, fun ad had j u hj => HH2.out.2 _ (below_step HBW.out (below_step (w := w2) (by go_grown) HBX.out)) ad had j u hj⟩
    apply relo_is
    · intro u wx hb hd
      have hz := hb.size
      (try simp only [World.size_alloc, World.size_setCell] at hz)
      have hz0 : w.heap.size < wx.heap.size := by omega
      have hz1 : w.heap.size + 1 < wx.heap.size := by omega
      have hz2 : w.heap.size + 1 + 1 < wx.heap.size := by omega
      have hz3 : w2.heap.size < wx.heap.size := by omega
      obtain ⟨hc, hf⟩ := bcell hb
      have HBX := Lib.hid hb
      clear hb hz
      simp [depsO, Region.binds, updO, OwnS.is, OwnS.any, eaten, eats] at hd
      go_simp
      first | exact ⟨Below.refl _ _, rfl⟩ | rfl
    intro u w9 hb hE
    have e1 : u 1 = _ := endO_get hE 1 (by decide) (by decide)
    have e2 : u 2 = _ := endO_get hE 2 (by decide) (by decide)
    have e3 : u 3 = _ := endO_get hE 3 (by decide) (by decide)
    have e4 : u 4 = _ := endO_get hE 4 (by decide) (by decide)
    have e6 : u 6 = _ := endO_get hE 6 (by decide) (by decide)
    have e7 : u 7 = _ := endO_get hE 7 (by decide) (by decide)
    have e8 : u 8 = _ := endO_get hE 8 (by decide) (by decide)
    have e9 : u 9 = _ := endO_get hE 9 (by decide) (by decide)
    have e10 : u 10 = _ := endO_get hE 10 (by decide) (by decide)
    have hO2 : w9.ownsRow _ _ _ (u 11) _ _ := endO_get hE 11 (by decide) (by decide)
    obtain ⟨v2, hv2⟩ : ∃ v2, u 11 = v2 := ⟨_, rfl⟩
    rw [hv2, show 0 + K + (ns - (K + 1)) = ns - 1 by omega, show ([] : List Value) ++ flatL Sh.enc ((rowL es ns).take K) ++ flatL Sh.enc ((rowL es ns).drop (K + 1)) = flatL Sh.enc (rowL (delF es K) (ns - 1)) by rw [rowL_del es hKn, flatL_append, List.nil_append]] at hO2
    simp only [World.size_alloc, World.size_setCell] at hO2
    have HO2 := Lib.hid hO2
    clear hO2
    have e12 : u 12 = _ := endO_get hE 12 (by decide) (by decide)
    simp only [List.drop_succ_cons, List.drop_zero, List.take_succ_cons, List.take_zero, fillL, Act.put, List.setIfInBounds_toArray, List.set_cons_zero, List.set_cons_succ, e1, e2, e3, e4, e6, e7, e8, e9, e10, hv2, e12]
    clear e1 e2 e3 e4 e6 e7 e8 e9 e10 hv2 e12 hE
    have HBw9 := Lib.hid (below_step (w := w2) (by first | assumption | go_grown) hb)
    have HBXw9 := Lib.hid hb
    have hzw9 := hb.size
    (try simp only [World.size_alloc, World.size_setCell] at hzw9)
    have hzw90 : w.heap.size < w9.heap.size := by omega
    have hzw91 : w.heap.size + 1 < w9.heap.size := by omega
    have hzw92 : w.heap.size + 1 + 1 < w9.heap.size := by omega
    have hzw93 : w2.heap.size < w9.heap.size := by omega
    obtain ⟨hcw9, hfw9⟩ := bcell hb
    clear hb hzw9
    have hs2 := owns_sh HO2.out
    obtain ⟨o7, c7, rfl, -, -, -⟩ := hs2.form
    clear hs2
    have HA6 := Lib.hid (owns_sh HO2.out)
    have HM7 := Lib.hid (owns_new HO2.out)
    have HBP : Hid (Below w2.heap.size w2 w9) := by
      show Below _ _ _
      exact HBw9.out
    have y0 : w9.cell? ⟨w2.heap.size, 0, none⟩ = some (.slice o1 ns c1) := (HBXw9.out.cell (p := ⟨_, _, none⟩) (by simp <;> omega)).trans (by simp [go_sem])
    have yf0 : w9.frozen? ⟨w2.heap.size, 0, none⟩ = false := (HBXw9.out.frozen (p := ⟨_, _, none⟩) (by simp <;> omega)).trans (by simp [go_sem])
    have yr0 : w9.cell? ⟨w.heap.size + 1, 0, none⟩ = some (.slice none 0 0) := (HBP.out.cell (p := ⟨_, _, none⟩) zrw2).trans r0w2
    have yrf0 : w9.frozen? ⟨w.heap.size + 1, 0, none⟩ = false := (HBP.out.frozen (p := ⟨_, _, none⟩) zrw2).trans fr0w2
    have y1 : w9.cell? ⟨w2.heap.size, 1, none⟩ = some (.slice o2 nb c2) := (HBXw9.out.cell (p := ⟨_, _, none⟩) (by simp <;> omega)).trans (by simp [go_sem])
    have yf1 : w9.frozen? ⟨w2.heap.size, 1, none⟩ = false := (HBXw9.out.frozen (p := ⟨_, _, none⟩) (by simp <;> omega)).trans (by simp [go_sem])
    have yr1 : w9.cell? ⟨w.heap.size + 1, 1, none⟩ = some (.slice none 0 0) := (HBP.out.cell (p := ⟨_, _, none⟩) zrw2).trans r1w2
    have yrf1 : w9.frozen? ⟨w.heap.size + 1, 1, none⟩ = false := (HBP.out.frozen (p := ⟨_, _, none⟩) zrw2).trans fr1w2
    have yx0 : w9.cell? ⟨w.heap.size + 1 + 1, 0, none⟩ = some (.string ⟨#[]⟩) := (HBP.out.cell (p := ⟨_, _, none⟩) zxw2).trans x0w2
    have yxf0 : w9.frozen? ⟨w.heap.size + 1 + 1, 0, none⟩ = false := (HBP.out.frozen (p := ⟨_, _, none⟩) zxw2).trans fx0w2
    have yx1 : w9.cell? ⟨w.heap.size + 1 + 1, 1, none⟩ = some (.string ⟨#[]⟩) := (HBP.out.cell (p := ⟨_, _, none⟩) zxw2).trans x1w2
    have yxf1 : w9.frozen? ⟨w.heap.size + 1 + 1, 1, none⟩ = false := (HBP.out.frozen (p := ⟨_, _, none⟩) zxw2).trans fx1w2
    have yx2 : w9.cell? ⟨w.heap.size + 1 + 1, 2, none⟩ = some (.int .i64 0) := (HBP.out.cell (p := ⟨_, _, none⟩) zxw2).trans x2w2
    have yxf2 : w9.frozen? ⟨w.heap.size + 1 + 1, 2, none⟩ = false := (HBP.out.frozen (p := ⟨_, _, none⟩) zxw2).trans fx2w2
    have yx3 : w9.cell? ⟨w.heap.size + 1 + 1, 3, none⟩ = some (.int .i64 0) := (HBP.out.cell (p := ⟨_, _, none⟩) zxw2).trans x3w2
    have yxf3 : w9.frozen? ⟨w.heap.size + 1 + 1, 3, none⟩ = false := (HBP.out.frozen (p := ⟨_, _, none⟩) zxw2).trans fx3w2
    have yx4 : w9.cell? ⟨w.heap.size + 1 + 1, 4, none⟩ = some (.int .i64 0) := (HBP.out.cell (p := ⟨_, _, none⟩) zxw2).trans x4w2
    have yxf4 : w9.frozen? ⟨w.heap.size + 1 + 1, 4, none⟩ = false := (HBP.out.frozen (p := ⟨_, _, none⟩) zxw2).trans fx4w2
    have yx5 : w9.cell? ⟨w.heap.size + 1 + 1, 5, none⟩ = some (.string ⟨#[]⟩) := (HBP.out.cell (p := ⟨_, _, none⟩) zxw2).trans x5w2
    have yxf5 : w9.frozen? ⟨w.heap.size + 1 + 1, 5, none⟩ = false := (HBP.out.frozen (p := ⟨_, _, none⟩) zxw2).trans fx5w2
    obtain ⟨b1, f1, rfl, hbl1, hcl1⟩ := HEL.out K hKn
    have HBW9 : Hid (Below w.heap.size w w9) := by
      show Below _ _ _
      exact below_step HBW.out HBw9.out
    have e0 : w9.cell? ⟨b1, f1 + K * 6, none⟩ = some (.string (es K).id) := (HBW9.out.cell (p := ⟨_, _, none⟩) hbl1).trans (hcl1 K hKn).1
    have e1 : w9.cell? ⟨b1, f1 + K * 6 + 1, none⟩ = some (.string (es K).grade) := (HBW9.out.cell (p := ⟨_, _, none⟩) hbl1).trans (hcl1 K hKn).2.1
    have e2 : w9.cell? ⟨b1, f1 + K * 6 + 2, none⟩ = some (.int .i64 (es K).thick) := (HBW9.out.cell (p := ⟨_, _, none⟩) hbl1).trans (hcl1 K hKn).2.2.1
    have e3 : w9.cell? ⟨b1, f1 + K * 6 + 3, none⟩ = some (.int .i64 (es K).len) := (HBW9.out.cell (p := ⟨_, _, none⟩) hbl1).trans (hcl1 K hKn).2.2.2.1
    have e4 : w9.cell? ⟨b1, f1 + K * 6 + 4, none⟩ = some (.int .i64 (es K).wid) := (HBW9.out.cell (p := ⟨_, _, none⟩) hbl1).trans (hcl1 K hKn).2.2.2.2.1
    have e5 : w9.cell? ⟨b1, f1 + K * 6 + 5, none⟩ = some (.string (es K).heat) := (HBW9.out.cell (p := ⟨_, _, none⟩) hbl1).trans (hcl1 K hKn).2.2.2.2.2
    have hbr : b1 < w9.heap.size := by have := HBW9.out.size; omega
    have hbn : b1 < w.heap.size := hbl1
    clear hcl1
    have kk0 : (0 : Int) ≤ (K : Int) := by omega
    have kk1 : (K : Int) < (ns : Int) := by omega
    have HRB9 : Hid (w9.heap[w.heap.size + 1]? = some (.cells #[.slice none 0 0, .slice none 0 0] 25)) := (HBP.out.block _ zrw2).trans HRB2.out
    have hPx : Below w.heap.size w (w9.setCell ⟨w2.heap.size, 0, none⟩ (.slice o7 (ns - 1) c7)) := (HBW9.out).setCell (by dsimp only; omega) _
    have hPz : Below w2.heap.size w2 (w9.setCell ⟨w2.heap.size, 0, none⟩ (.slice o7 (ns - 1) c7)) := (HBP.out).setCell (Nat.le_refl _) _
    go_wp2_with fail
    refine wp_region_seq 7 [] [⟨w.heap.size + 1, 6, #[.slice none 0 0, .slice none 0 0], 25⟩] (by kernel_rfl) (by kernel_rfl) (by kernel_rfl) (by kernel_rfl) (by kernel_rfl) ?_ ?_ ?_
    · intro r hr
      simp only [List.mem_singleton] at hr
      subst hr
      have x0 := HRB9.out
      refine ⟨by show w.heap.size + 1 < _; first | omega | (simp <;> omega), ?_⟩
      show _[w.heap.size + 1]? = _
      first | assumption | (simp (disch := (first | omega | (simp only [World.size_alloc, World.size_setCell] <;> omega))) only [x0, heapA_at, heapA_old, heapS_same, heapS_other, setObj, Option.map_some]; done)
    · intro r hr s hs h
      simp only [List.mem_singleton] at hr hs
      subst hr hs
      exact absurd rfl h
    simp only [List.take_succ_cons, List.take_zero, fillL, Act.put, List.setIfInBounds_toArray, List.set_cons_zero, List.set_cons_succ]
    apply seq_is (by kernel_rfl)
    · intro u wx hb hd
      have hz := hb.size
      (try simp only [World.size_alloc, World.size_setCell] at hz)
      have hz0 : w.heap.size < wx.heap.size := by omega
      have hz1 : w.heap.size + 1 < wx.heap.size := by omega
      have hz2 : w.heap.size + 1 + 1 < wx.heap.size := by omega
      have hz3 : w2.heap.size < wx.heap.size := by omega
      have hz4 : b1 < wx.heap.size := by omega
      obtain ⟨kc0, kf0⟩ := hb.cell (w.heap.size) (by first | omega | (simp <;> omega)) (by intro r hr; simp only [List.mem_singleton] at hr; subst hr; show w.heap.size + 1 ≠ w.heap.size; omega)
      obtain ⟨kc2, kf2⟩ := hb.cell (w.heap.size + 1 + 1) (by first | omega | (simp <;> omega)) (by intro r hr; simp only [List.mem_singleton] at hr; subst hr; show w.heap.size + 1 ≠ w.heap.size + 1 + 1; omega)
      obtain ⟨kc3, kf3⟩ := hb.cell (w2.heap.size) (by first | omega | (simp <;> omega)) (by intro r hr; simp only [List.mem_singleton] at hr; subst hr; show w.heap.size + 1 ≠ w2.heap.size; omega)
      obtain ⟨kc4, kf4⟩ := hb.cell (b1) (by first | omega | (simp <;> omega)) (by intro r hr; simp only [List.mem_singleton] at hr; subst hr; show w.heap.size + 1 ≠ b1; omega)
      clear hb hz
      simp [depsE, Region.binds, updE, kindOf, Prp.is, Prp.any] at hd
      go_simp
      first | exact ⟨Below.refl _ _, rfl⟩ | rfl
    apply seq_is (by kernel_rfl)
    · intro u wx hb hd
      have hz := hb.size
      (try simp only [World.size_alloc, World.size_setCell] at hz)
      have hz0 : w.heap.size < wx.heap.size := by omega
      have hz1 : w.heap.size + 1 < wx.heap.size := by omega
      have hz2 : w.heap.size + 1 + 1 < wx.heap.size := by omega
      have hz3 : w2.heap.size < wx.heap.size := by omega
      have hz4 : b1 < wx.heap.size := by omega
      obtain ⟨kc0, kf0⟩ := hb.cell (w.heap.size) (by first | omega | (simp <;> omega)) (by intro r hr; simp only [List.mem_singleton] at hr; subst hr; show w.heap.size + 1 ≠ w.heap.size; omega)
      obtain ⟨kc2, kf2⟩ := hb.cell (w.heap.size + 1 + 1) (by first | omega | (simp <;> omega)) (by intro r hr; simp only [List.mem_singleton] at hr; subst hr; show w.heap.size + 1 ≠ w.heap.size + 1 + 1; omega)
      obtain ⟨kc3, kf3⟩ := hb.cell (w2.heap.size) (by first | omega | (simp <;> omega)) (by intro r hr; simp only [List.mem_singleton] at hr; subst hr; show w.heap.size + 1 ≠ w2.heap.size; omega)
      obtain ⟨kc4, kf4⟩ := hb.cell (b1) (by first | omega | (simp <;> omega)) (by intro r hr; simp only [List.mem_singleton] at hr; subst hr; show w.heap.size + 1 ≠ b1; omega)
      clear hb hz
      simp [depsE, Region.binds, updE, kindOf, Prp.is, Prp.any] at hd
      go_simp
      first | exact ⟨Below.refl _ _, rfl⟩ | rfl
    apply seq_is (by kernel_rfl)
    · intro u wx hb hd
      have hz := hb.size
      (try simp only [World.size_alloc, World.size_setCell] at hz)
      have hz0 : w.heap.size < wx.heap.size := by omega
      have hz1 : w.heap.size + 1 < wx.heap.size := by omega
      have hz2 : w.heap.size + 1 + 1 < wx.heap.size := by omega
      have hz3 : w2.heap.size < wx.heap.size := by omega
      have hz4 : b1 < wx.heap.size := by omega
      obtain ⟨kc0, kf0⟩ := hb.cell (w.heap.size) (by first | omega | (simp <;> omega)) (by intro r hr; simp only [List.mem_singleton] at hr; subst hr; show w.heap.size + 1 ≠ w.heap.size; omega)
      obtain ⟨kc2, kf2⟩ := hb.cell (w.heap.size + 1 + 1) (by first | omega | (simp <;> omega)) (by intro r hr; simp only [List.mem_singleton] at hr; subst hr; show w.heap.size + 1 ≠ w.heap.size + 1 + 1; omega)
      obtain ⟨kc3, kf3⟩ := hb.cell (w2.heap.size) (by first | omega | (simp <;> omega)) (by intro r hr; simp only [List.mem_singleton] at hr; subst hr; show w.heap.size + 1 ≠ w2.heap.size; omega)
      obtain ⟨kc4, kf4⟩ := hb.cell (b1) (by first | omega | (simp <;> omega)) (by intro r hr; simp only [List.mem_singleton] at hr; subst hr; show w.heap.size + 1 ≠ b1; omega)
      clear hb hz
      simp [depsE, Region.binds, updE, kindOf, Prp.is, Prp.any] at hd
      go_simp
      first | exact ⟨Below.refl _ _, rfl⟩ | rfl
    apply seq_is (by kernel_rfl)
    · intro u wx hb hd
      have hz := hb.size
      (try simp only [World.size_alloc, World.size_setCell] at hz)
      have hz0 : w.heap.size < wx.heap.size := by omega
      have hz1 : w.heap.size + 1 < wx.heap.size := by omega
      have hz2 : w.heap.size + 1 + 1 < wx.heap.size := by omega
      have hz3 : w2.heap.size < wx.heap.size := by omega
      have hz4 : b1 < wx.heap.size := by omega
      obtain ⟨kc0, kf0⟩ := hb.cell (w.heap.size) (by first | omega | (simp <;> omega)) (by intro r hr; simp only [List.mem_singleton] at hr; subst hr; show w.heap.size + 1 ≠ w.heap.size; omega)
      obtain ⟨kc2, kf2⟩ := hb.cell (w.heap.size + 1 + 1) (by first | omega | (simp <;> omega)) (by intro r hr; simp only [List.mem_singleton] at hr; subst hr; show w.heap.size + 1 ≠ w.heap.size + 1 + 1; omega)
      obtain ⟨kc3, kf3⟩ := hb.cell (w2.heap.size) (by first | omega | (simp <;> omega)) (by intro r hr; simp only [List.mem_singleton] at hr; subst hr; show w.heap.size + 1 ≠ w2.heap.size; omega)
      obtain ⟨kc4, kf4⟩ := hb.cell (b1) (by first | omega | (simp <;> omega)) (by intro r hr; simp only [List.mem_singleton] at hr; subst hr; show w.heap.size + 1 ≠ b1; omega)
      clear hb hz
      simp [depsE, Region.binds, updE, kindOf, Prp.is, Prp.any] at hd
      go_simp
      first | exact ⟨Below.refl _ _, rfl⟩ | rfl
    apply seq_is (by kernel_rfl)
    · intro u wx hb hd
      have hz := hb.size
      (try simp only [World.size_alloc, World.size_setCell] at hz)
      have hz0 : w.heap.size < wx.heap.size := by omega
      have hz1 : w.heap.size + 1 < wx.heap.size := by omega
      have hz2 : w.heap.size + 1 + 1 < wx.heap.size := by omega
      have hz3 : w2.heap.size < wx.heap.size := by omega
      have hz4 : b1 < wx.heap.size := by omega
      obtain ⟨kc0, kf0⟩ := hb.cell (w.heap.size) (by first | omega | (simp <;> omega)) (by intro r hr; simp only [List.mem_singleton] at hr; subst hr; show w.heap.size + 1 ≠ w.heap.size; omega)
      obtain ⟨kc2, kf2⟩ := hb.cell (w.heap.size + 1 + 1) (by first | omega | (simp <;> omega)) (by intro r hr; simp only [List.mem_singleton] at hr; subst hr; show w.heap.size + 1 ≠ w.heap.size + 1 + 1; omega)
      obtain ⟨kc3, kf3⟩ := hb.cell (w2.heap.size) (by first | omega | (simp <;> omega)) (by intro r hr; simp only [List.mem_singleton] at hr; subst hr; show w.heap.size + 1 ≠ w2.heap.size; omega)
      obtain ⟨kc4, kf4⟩ := hb.cell (b1) (by first | omega | (simp <;> omega)) (by intro r hr; simp only [List.mem_singleton] at hr; subst hr; show w.heap.size + 1 ≠ b1; omega)
      clear hb hz
      simp [depsE, Region.binds, updE, kindOf, Prp.is, Prp.any] at hd
      go_simp
      first | exact ⟨Below.refl _ _, rfl⟩ | rfl
    apply seq_is (by kernel_rfl)
    · intro u wx hb hd
      have hz := hb.size
      (try simp only [World.size_alloc, World.size_setCell] at hz)
      have hz0 : w.heap.size < wx.heap.size := by omega
      have hz1 : w.heap.size + 1 < wx.heap.size := by omega
      have hz2 : w.heap.size + 1 + 1 < wx.heap.size := by omega
      have hz3 : w2.heap.size < wx.heap.size := by omega
      have hz4 : b1 < wx.heap.size := by omega
      obtain ⟨kc0, kf0⟩ := hb.cell (w.heap.size) (by first | omega | (simp <;> omega)) (by intro r hr; simp only [List.mem_singleton] at hr; subst hr; show w.heap.size + 1 ≠ w.heap.size; omega)
      obtain ⟨kc2, kf2⟩ := hb.cell (w.heap.size + 1 + 1) (by first | omega | (simp <;> omega)) (by intro r hr; simp only [List.mem_singleton] at hr; subst hr; show w.heap.size + 1 ≠ w.heap.size + 1 + 1; omega)
      obtain ⟨kc3, kf3⟩ := hb.cell (w2.heap.size) (by first | omega | (simp <;> omega)) (by intro r hr; simp only [List.mem_singleton] at hr; subst hr; show w.heap.size + 1 ≠ w2.heap.size; omega)
      obtain ⟨kc4, kf4⟩ := hb.cell (b1) (by first | omega | (simp <;> omega)) (by intro r hr; simp only [List.mem_singleton] at hr; subst hr; show w.heap.size + 1 ≠ b1; omega)
      clear hb hz
      simp [depsE, Region.binds, updE, kindOf, Prp.is, Prp.any] at hd
      go_simp
      first | exact ⟨Below.refl _ _, rfl⟩ | rfl
    apply seq_pre_agg ⟨w.heap.size + 1, 6, #[.slice none 0 0, .slice none 0 0], 25⟩ (by simp) rfl (by kernel_rfl) rfl
    · intro u wx hb hd
      have hz := hb.size
      (try simp only [World.size_alloc, World.size_setCell] at hz)
      have hz0 : w.heap.size < wx.heap.size := by omega
      have hz1 : w.heap.size + 1 < wx.heap.size := by omega
      have hz2 : w.heap.size + 1 + 1 < wx.heap.size := by omega
      have hz3 : w2.heap.size < wx.heap.size := by omega
      have hz4 : b1 < wx.heap.size := by omega
      obtain ⟨kc0, kf0⟩ := hb.cell (w.heap.size) (by first | omega | (simp <;> omega)) (by intro r hr; simp only [List.mem_singleton] at hr; subst hr; show w.heap.size + 1 ≠ w.heap.size; omega)
      obtain ⟨kc2, kf2⟩ := hb.cell (w.heap.size + 1 + 1) (by first | omega | (simp <;> omega)) (by intro r hr; simp only [List.mem_singleton] at hr; subst hr; show w.heap.size + 1 ≠ w.heap.size + 1 + 1; omega)
      obtain ⟨kc3, kf3⟩ := hb.cell (w2.heap.size) (by first | omega | (simp <;> omega)) (by intro r hr; simp only [List.mem_singleton] at hr; subst hr; show w.heap.size + 1 ≠ w2.heap.size; omega)
      obtain ⟨kc4, kf4⟩ := hb.cell (b1) (by first | omega | (simp <;> omega)) (by intro r hr; simp only [List.mem_singleton] at hr; subst hr; show w.heap.size + 1 ≠ b1; omega)
      clear hb hz
      simp [depsE, Region.binds, updE, kindOf, Prp.is, Prp.any] at hd
      refine ⟨by simp [Region.wanted], fun hcells => ?_⟩
      have hcells' : wx.heap[w.heap.size + 1]? = some (.cells #[.slice none 0 0, .slice none 0 0] 25) := hcells
      have hat := cells_at2 hcells'
      have HCL := Lib.hid hcells'
      clear hcells hcells'
      go_simp
      exact Stored.c2 HCL.out _ _
    intro u w10 hb hE hV hP
    have e0 : u 0 = _ := endE_get hE 0 (by decide) (by simp [kindOf])
    have e1 : u 1 = _ := endE_get hE 1 (by decide) (by simp [kindOf])
    have e2 : u 2 = _ := endE_get hE 2 (by decide) (by simp [kindOf])
    have e3 : u 3 = _ := endE_get hE 3 (by decide) (by simp [kindOf])
    have e4 : u 4 = _ := endE_get hE 4 (by decide) (by simp [kindOf])
    have e5 : u 5 = _ := endE_get hE 5 (by decide) (by simp [kindOf])
    have e6 : u 6 = _ := endE_get hE 6 (by decide) (by simp [kindOf])
    clear hV
    have qp : w10.heap[w.heap.size + 1]? = some (.cells (u 6).cells 25) := hP.1
    rw [e6] at qp
    obtain ⟨mpw100, mpw101, mpfw10, mpsw10⟩ := cells_at2 qp
    have HPw10 := Lib.hid qp
    clear qp hP
    simp only [List.drop_succ_cons, List.drop_zero, List.take_succ_cons, List.take_zero, fillL, Act.put, List.setIfInBounds_toArray, List.set_cons_zero, List.set_cons_succ, e0, e1, e2, e3, e4, e5, e6]
    clear e0 e1 e2 e3 e4 e5 e6 hE
    have hw10 : Below w.heap.size w w10 := Below.trans (by first | assumption | go_grown) (hb.below (B := w.heap.size) (by first | omega | (simp <;> omega)) (by intro r hr; simp only [List.mem_singleton] at hr; subst hr; show w.heap.size ≤ w.heap.size + 1; omega))
    have hzw10 := hb.size
    (try simp only [World.size_alloc, World.size_setCell] at hzw10)
    have hzw100 : w.heap.size < w10.heap.size := by omega
    have hzw101 : w.heap.size + 1 < w10.heap.size := by omega
    have hzw102 : w.heap.size + 1 + 1 < w10.heap.size := by omega
    have hzw103 : w2.heap.size < w10.heap.size := by omega
    have hzw104 : b1 < w10.heap.size := by omega
    obtain ⟨hcw100, hfw100⟩ := hb.cell (w.heap.size) (by first | omega | (simp <;> omega)) (by intro r hr; simp only [List.mem_singleton] at hr; subst hr; show w.heap.size + 1 ≠ w.heap.size; omega)
    obtain ⟨hcw102, hfw102⟩ := hb.cell (w.heap.size + 1 + 1) (by first | omega | (simp <;> omega)) (by intro r hr; simp only [List.mem_singleton] at hr; subst hr; show w.heap.size + 1 ≠ w.heap.size + 1 + 1; omega)
    obtain ⟨hcw103, hfw103⟩ := hb.cell (w2.heap.size) (by first | omega | (simp <;> omega)) (by intro r hr; simp only [List.mem_singleton] at hr; subst hr; show w.heap.size + 1 ≠ w2.heap.size; omega)
    obtain ⟨hcw104, hfw104⟩ := hb.cell (b1) (by first | omega | (simp <;> omega)) (by intro r hr; simp only [List.mem_singleton] at hr; subst hr; show w.heap.size + 1 ≠ b1; omega)
    have HKP := Lib.hid hb
    clear hb hzw10
    have HBV := Lib.hid hw10
    have hz2' := hz2.out
    have hz3' := hz3.out
    have hw89 : w2.heap.size ≤ w9.heap.size := HBP.out.size
    have HA9 := Lib.hid (kept_sh HKP.out (sh_set HA6.out HM7.out (w2.heap.size) 0 (.slice o7 (ns - 1) c7) (by omega)) HM7.out (by intro r hr; simp only [List.mem_singleton] at hr; subst hr; dsimp only; omega))
    have HB9 := Lib.hid (kept_br HKP.out (H2.out.below hPz) H4.out (by intro r hr; simp only [List.mem_singleton] at hr; subst hr; dsimp only; omega))
    go_wp2
    all_goals (refine bodyPost_ret (v := .tuple #[.agg #[.slice o7 (ns - 1) c7, .slice o2 nb c2], .agg #[.string (es K).id, .string (es K).grade, .int .i64 (es K).thick, .int .i64 (es K).len, .int .i64 (es K).wid, .string (es K).heat], .int .i64 0]) (by simp (maxDischargeDepth := 9) [results, Tryz.results15, go_sem, *]) rfl ?_)
    rw [HZ.out.1, HZ.out.2.1, HZ.out.2.2.1, HZ.out.2.2.2]
    refine ⟨_, rfl, ⟨_, _, rfl, ?_, ?_⟩, ?_⟩
    · exact sh_set (sh_set (sh_set (sh_set (sh_set (sh_set (HA9.out) HM7.out _ _ _ (by omega)) HM7.out _ _ _ (by omega)) HM7.out _ _ _ (by omega)) HM7.out _ _ _ (by omega)) HM7.out _ _ _ (by omega)) HM7.out _ _ _ (by omega)
    · exact br_set (br_set (br_set (br_set (br_set (br_set (HB9.out) H4.out _ _ _ (by omega)) H4.out _ _ _ (by omega)) H4.out _ _ _ (by omega)) H4.out _ _ _ (by omega)) H4.out _ _ _ (by omega)) H4.out _ _ _ (by omega)
    · exact ((((((HBV.out).setCell (by dsimp only; omega) _).setCell (by dsimp only; omega) _).setCell (by dsimp only; omega) _).setCell (by dsimp only; omega) _).setCell (by dsimp only; omega) _).setCell (by dsimp only; omega) _
  · have k1 : decide (AT < 0) = true := decide_eq_true (by have h2 := HAT.out; unfold atE at h2; rw [if_neg hfd] at h2; omega)
    have HZ : Hid (RR = 8 ∧ X = Sh.none ∧ NS = 0 ∧ NB = 0) := by
      have h1 : RR = 8 := by rw [← HRR.out]; unfold takeE; rw [if_neg hfd]
      exact ⟨h1, by rw [← HX.out]; unfold takeV; rw [if_neg hfd], by rw [← HNS.out, if_neg (by rw [h1]; decide)], by rw [← HNB.out, if_neg (by rw [h1]; decide)]⟩
    go_wp2
    all_goals (refine bodyPost_ret (v := .tuple #[.agg #[.slice none 0 0, .slice none 0 0], .agg #[.string ⟨#[]⟩, .string ⟨#[]⟩, .int .i64 0, .int .i64 0, .int .i64 0, .string ⟨#[]⟩], .int .i64 8]) (by simp (maxDischargeDepth := 9) [results, Tryz.results15, go_sem, *]) rfl ?_)
    rw [HZ.out.1, HZ.out.2.1, HZ.out.2.2.1, HZ.out.2.2.2]
    exact ⟨_, rfl, St_zero _ _ _, by go_grown⟩

set_option maxHeartbeats 16000000 in
theorem RTakeBar_any (v : Value) (ns : Nat) (es : Nat → Sh) (nb : Nat) (eb : Nat → Br) (s : ByteArray) (w : World) (h : StAt w v ns es nb eb) (n1 : ns ≤ 1000000) (n2 : nb ≤ 1000000) (ha : AscB Br.id eb nb) :
    Calls Tryz.prog 17 #[v, .string s] w fun e w' => ∃ v', e = .returned (.tuple #[v', (takeV Br.id Br.none eb nb s).val, .int .i64 (takeE Br.id eb nb s)]) ∧ StAt w' v' (if takeE Br.id eb nb s = 0 then ns else 0) es (if takeE Br.id eb nb s = 0 then nb - 1 else 0) (delF eb (placeI Br.id eb nb s)) ∧ Below w.heap.size w w' := by
  have HASC := Lib.hid ha
  have HST := Lib.hid h
  obtain ⟨va, vb, rfl, hSh, hBr⟩ := h
  have HSH := Lib.hid hSh
  have HBR := Lib.hid hBr
  obtain ⟨oa, ca, rfl, hna, hca, hela⟩ := hSh.form
  obtain ⟨ob, cb, rfl, hnb, hcb, helb⟩ := hBr.form
  obtain ⟨iSheet, hiSheet, hz0Sheet, hz1Sheet, hz2Sheet⟩ := info_parts info_Sheet
  obtain ⟨iBar, hiBar, hz0Bar, hz1Bar, hz2Bar⟩ := info_parts info_Bar
  have HEL := Lib.hid helb
  obtain ⟨X, hX⟩ : ∃ X, takeV Br.id Br.none eb nb s = X := ⟨_, rfl⟩
  obtain ⟨RR, hRR⟩ : ∃ RR, takeE Br.id eb nb s = RR := ⟨_, rfl⟩
  obtain ⟨AT, hAT⟩ : ∃ AT, atE Br.id eb nb s = AT := ⟨_, rfl⟩
  obtain ⟨K, hK⟩ : ∃ K, placeI Br.id eb nb s = K := ⟨_, rfl⟩
  have HX := Lib.hid hX
  have HRR := Lib.hid hRR
  have HAT := Lib.hid hAT
  have HK := Lib.hid hK
  rw [hX, hRR, hK]
  obtain ⟨NS, hNS⟩ : ∃ NS, (if RR = 0 then ns else 0) = NS := ⟨_, rfl⟩
  obtain ⟨NB, hNB⟩ : ∃ NB, (if RR = 0 then nb - 1 else 0) = NB := ⟨_, rfl⟩
  have HNS := Lib.hid hNS
  have HNB := Lib.hid hNB
  rw [hNS, hNB]
  clear hSh hBr ha hela helb hX hRR hAT hK hNS hNB
  go_enter Tryz.func17, Tryz.ntmps17
  go_wp2_with fail
  (go_at_call 39; refine (rat_Bar _ ns es nb eb s _ (HST.out.below (by first | assumption | go_grown)) HASC.out).mono ?_; rintro e_ w1 ⟨rfl, hb⟩)
  rw [HAT.out]
  have hsw1 := hb.size
  (try simp only [World.size_alloc, World.size_setCell] at hsw1)
  have zzw1 : w.heap.size < w1.heap.size := by omega
  have hPw1 : Below w.heap.size w w1 := below_step (w := w) (by first | exact Below.refl _ _ | go_grown) hb
  have zsw1 : w.heap.size < w1.heap.size := by omega
  have s0w1 : w1.cell? ⟨w.heap.size, 0, none⟩ = some (.slice oa ns ca) := (hb.cell (p := ⟨_, _, none⟩) (by simp <;> omega)).trans (by simp [go_sem])
  have s1w1 : w1.cell? ⟨w.heap.size, 1, none⟩ = some (.slice ob nb cb) := (hb.cell (p := ⟨_, _, none⟩) (by simp <;> omega)).trans (by simp [go_sem])
  have zrw1 : w.heap.size + 1 < w1.heap.size := by omega
  have r0w1 : w1.cell? ⟨w.heap.size + 1, 0, none⟩ = some (.slice none 0 0) := (hb.cell (p := ⟨_, _, none⟩) (by simp <;> omega)).trans (by simp [go_sem])
  have r1w1 : w1.cell? ⟨w.heap.size + 1, 1, none⟩ = some (.slice none 0 0) := (hb.cell (p := ⟨_, _, none⟩) (by simp <;> omega)).trans (by simp [go_sem])
  have fr0w1 : w1.frozen? ⟨w.heap.size + 1, 0, none⟩ = false := (hb.frozen (p := ⟨_, _, none⟩) (by simp <;> omega)).trans (by simp [go_sem])
  have fr1w1 : w1.frozen? ⟨w.heap.size + 1, 1, none⟩ = false := (hb.frozen (p := ⟨_, _, none⟩) (by simp <;> omega)).trans (by simp [go_sem])
  have zxw1 : w.heap.size + 1 + 1 < w1.heap.size := by omega
  have x0w1 : w1.cell? ⟨w.heap.size + 1 + 1, 0, none⟩ = some (.string ⟨#[]⟩) := (hb.cell (p := ⟨_, _, none⟩) (by simp <;> omega)).trans (by simp [go_sem])
  have x1w1 : w1.cell? ⟨w.heap.size + 1 + 1, 1, none⟩ = some (.string ⟨#[]⟩) := (hb.cell (p := ⟨_, _, none⟩) (by simp <;> omega)).trans (by simp [go_sem])
  have x2w1 : w1.cell? ⟨w.heap.size + 1 + 1, 2, none⟩ = some (.string ⟨#[]⟩) := (hb.cell (p := ⟨_, _, none⟩) (by simp <;> omega)).trans (by simp [go_sem])
  have x3w1 : w1.cell? ⟨w.heap.size + 1 + 1, 3, none⟩ = some (.int .i64 0) := (hb.cell (p := ⟨_, _, none⟩) (by simp <;> omega)).trans (by simp [go_sem])
  have x4w1 : w1.cell? ⟨w.heap.size + 1 + 1, 4, none⟩ = some (.string ⟨#[]⟩) := (hb.cell (p := ⟨_, _, none⟩) (by simp <;> omega)).trans (by simp [go_sem])
  have fx0w1 : w1.frozen? ⟨w.heap.size + 1 + 1, 0, none⟩ = false := (hb.frozen (p := ⟨_, _, none⟩) (by simp <;> omega)).trans (by simp [go_sem])
  have fx1w1 : w1.frozen? ⟨w.heap.size + 1 + 1, 1, none⟩ = false := (hb.frozen (p := ⟨_, _, none⟩) (by simp <;> omega)).trans (by simp [go_sem])
  have fx2w1 : w1.frozen? ⟨w.heap.size + 1 + 1, 2, none⟩ = false := (hb.frozen (p := ⟨_, _, none⟩) (by simp <;> omega)).trans (by simp [go_sem])
  have fx3w1 : w1.frozen? ⟨w.heap.size + 1 + 1, 3, none⟩ = false := (hb.frozen (p := ⟨_, _, none⟩) (by simp <;> omega)).trans (by simp [go_sem])
  have fx4w1 : w1.frozen? ⟨w.heap.size + 1 + 1, 4, none⟩ = false := (hb.frozen (p := ⟨_, _, none⟩) (by simp <;> omega)).trans (by simp [go_sem])
  have hBw1 : Below w.heap.size w w1 := below_step (w := w) (by first | assumption | go_grown) hb
  have HRB1 : Hid (w1.heap[w.heap.size + 1]? = some (.cells #[.slice none 0 0, .slice none 0 0] 25)) := (hb.block _ (by simp <;> omega)).trans (by rw [heapA_old _ _ _ (by simp), heapA_at _ _ _ (by simp)])
  clear hb hsw1 hPw1
  by_cases hfd : foundB Br.id eb nb s = true
  · have HZ : Hid (RR = 0 ∧ X = eb K ∧ NS = ns ∧ NB = nb - 1) := by
      have h1 : RR = 0 := by rw [← HRR.out]; unfold takeE; rw [if_pos hfd]
      exact ⟨h1, by rw [← HX.out, ← HK.out]; unfold takeV; rw [if_pos hfd], by rw [← HNS.out, if_pos h1], by rw [← HNB.out, if_pos h1]⟩
    have hKn : K < nb := by
      have h2 := hfd
      unfold foundB at h2
      rw [HK.out] at h2
      simp only [Bool.and_eq_true, decide_eq_true_eq] at h2
      exact h2.1
    obtain rfl : (K : Int) = AT := by
      have h2 := HAT.out
      unfold atE at h2
      rw [if_pos hfd, HK.out] at h2
      exact h2
    have k1 : decide ((K : Int) < 0) = false := decide_eq_false (by omega)
    have HKN : Hid (K ≤ nb) := Nat.le_of_lt hKn
    go_wp2_with fail
    (go_at_call 34; refine (rcopied_any _ ns es nb eb _ (HST.out.below (by first | assumption | go_grown)) n1 n2).mono ?_; rintro e_ w2 ⟨va', vb', rfl, hx1, hx2, hx3, hx4, hb⟩)
    have hsw2 := hb.size
    (try simp only [World.size_alloc, World.size_setCell] at hsw2)
    have zzw2 : w.heap.size < w2.heap.size := by omega
    have hPw2 : Below w1.heap.size w1 w2 := below_step (w := w1) (by first | exact Below.refl _ _ | go_grown) hb
    have zsw2 : w.heap.size < w2.heap.size := by omega
    have s0w2 : w2.cell? ⟨w.heap.size, 0, none⟩ = some (.slice oa ns ca) := (hPw2.cell (p := ⟨_, _, none⟩) zsw1).trans s0w1
    have s1w2 : w2.cell? ⟨w.heap.size, 1, none⟩ = some (.slice ob nb cb) := (hPw2.cell (p := ⟨_, _, none⟩) zsw1).trans s1w1
    have zrw2 : w.heap.size + 1 < w2.heap.size := by omega
    have r0w2 : w2.cell? ⟨w.heap.size + 1, 0, none⟩ = some (.slice none 0 0) := (hPw2.cell (p := ⟨_, _, none⟩) zrw1).trans r0w1
    have r1w2 : w2.cell? ⟨w.heap.size + 1, 1, none⟩ = some (.slice none 0 0) := (hPw2.cell (p := ⟨_, _, none⟩) zrw1).trans r1w1
    have fr0w2 : w2.frozen? ⟨w.heap.size + 1, 0, none⟩ = false := (hPw2.frozen (p := ⟨_, _, none⟩) zrw1).trans fr0w1
    have fr1w2 : w2.frozen? ⟨w.heap.size + 1, 1, none⟩ = false := (hPw2.frozen (p := ⟨_, _, none⟩) zrw1).trans fr1w1
    have zxw2 : w.heap.size + 1 + 1 < w2.heap.size := by omega
    have x0w2 : w2.cell? ⟨w.heap.size + 1 + 1, 0, none⟩ = some (.string ⟨#[]⟩) := (hPw2.cell (p := ⟨_, _, none⟩) zxw1).trans x0w1
    have x1w2 : w2.cell? ⟨w.heap.size + 1 + 1, 1, none⟩ = some (.string ⟨#[]⟩) := (hPw2.cell (p := ⟨_, _, none⟩) zxw1).trans x1w1
    have x2w2 : w2.cell? ⟨w.heap.size + 1 + 1, 2, none⟩ = some (.string ⟨#[]⟩) := (hPw2.cell (p := ⟨_, _, none⟩) zxw1).trans x2w1
    have x3w2 : w2.cell? ⟨w.heap.size + 1 + 1, 3, none⟩ = some (.int .i64 0) := (hPw2.cell (p := ⟨_, _, none⟩) zxw1).trans x3w1
    have x4w2 : w2.cell? ⟨w.heap.size + 1 + 1, 4, none⟩ = some (.string ⟨#[]⟩) := (hPw2.cell (p := ⟨_, _, none⟩) zxw1).trans x4w1
    have fx0w2 : w2.frozen? ⟨w.heap.size + 1 + 1, 0, none⟩ = false := (hPw2.frozen (p := ⟨_, _, none⟩) zxw1).trans fx0w1
    have fx1w2 : w2.frozen? ⟨w.heap.size + 1 + 1, 1, none⟩ = false := (hPw2.frozen (p := ⟨_, _, none⟩) zxw1).trans fx1w1
    have fx2w2 : w2.frozen? ⟨w.heap.size + 1 + 1, 2, none⟩ = false := (hPw2.frozen (p := ⟨_, _, none⟩) zxw1).trans fx2w1
    have fx3w2 : w2.frozen? ⟨w.heap.size + 1 + 1, 3, none⟩ = false := (hPw2.frozen (p := ⟨_, _, none⟩) zxw1).trans fx3w1
    have fx4w2 : w2.frozen? ⟨w.heap.size + 1 + 1, 4, none⟩ = false := (hPw2.frozen (p := ⟨_, _, none⟩) zxw1).trans fx4w1
    have hBw2 : Below w.heap.size w w2 := below_step (w := w) (by first | assumption | go_grown) hb
    have HRB2 : Hid (w2.heap[w.heap.size + 1]? = some (.cells #[.slice none 0 0, .slice none 0 0] 25)) := (hPw2.block _ zrw1).trans HRB1.out
    have hz2 := Lib.hid zrw1
    have hz3 := Lib.hid zxw1
    have H1 := Lib.hid hx1
    have H2 := Lib.hid hx2
    have H3 := Lib.hid hx3
    have H4 := Lib.hid hx4
    obtain ⟨o1, c1, rfl, -, -, -⟩ := hx1.form
    obtain ⟨o2, c2, rfl, -, -, -⟩ := hx2.form
    clear hx1 hx2 hx3 hx4
    clear hb hsw2 hPw2
    clear zsw1 zrw1 zxw1 s0w1 s1w1 r0w1 r1w1 x0w1 x1w1 x2w1 x3w1 x4w1 fr0w1 fr1w1 fx0w1 fx1w1 fx2w1 fx3w1 fx4w1
    obtain ⟨p1, pc1, hs1, hh1⟩ := head_Bar HBR.out HKN.out
    obtain ⟨p2, pc2, hs2, hh2⟩ := tail_Bar (i := K + 1) HBR.out hKn
    have HS1 := Lib.hid hs1
    have HS2 := Lib.hid hs2
    have HH1 := Lib.hid hh1
    have HH2 := Lib.hid hh2
    clear hs1 hs2 hh1 hh2
    have hwr : IntKind.i64.wrap ((K : Int) + 1) = (K : Int) + 1 := IntWalk.i64_in _ (by omega)
    have HBW : Hid (Below w.heap.size w w2) := hBw2
    go_wp2_with fail
    refine wp_region_own 13 [(0, 5), (5, 11)] (by kernel_rfl) (by kernel_rfl) (by kernel_rfl) (by kernel_rfl) (by kernel_rfl) ?_
    simp only [List.take_succ_cons, List.take_zero, fillL, Act.put, List.setIfInBounds_toArray, List.set_cons_zero, List.set_cons_succ]
    refine relo_new (OwnS.row (w2.alloc (Obj.cells #[.slice o1 ns c1, .slice o2 nb c2] 25)).heap.size 33 5 0 []) ?_ ?_
    · intro u wx hb hd
      have hz := hb.size
      (try simp only [World.size_alloc, World.size_setCell] at hz)
      have hz0 : w.heap.size < wx.heap.size := by omega
      have hz1 : w.heap.size + 1 < wx.heap.size := by omega
      have hz2 : w.heap.size + 1 + 1 < wx.heap.size := by omega
      have hz3 : w2.heap.size < wx.heap.size := by omega
      obtain ⟨hc, hf⟩ := bcell hb
      have HBX := Lib.hid hb
      clear hb hz
      simp [depsO, Region.binds, updO, OwnS.is, OwnS.any, eaten, eats] at hd
      refine ⟨by simp [Region.wanted], ?_⟩
      go_simp
      exact ⟨(Below.refl _ _).alloc (Nat.le_refl _) _, ownsRow_built0 _ _ _ (by have := HBX.out.size; omega), fun b hb => by simp [OwnS.row, Value.ownBlock] at hb; omega⟩
    apply relo_is
    · intro u wx hb hd
      have hz := hb.size
      (try simp only [World.size_alloc, World.size_setCell] at hz)
      have hz0 : w.heap.size < wx.heap.size := by omega
      have hz1 : w.heap.size + 1 < wx.heap.size := by omega
      have hz2 : w.heap.size + 1 + 1 < wx.heap.size := by omega
      have hz3 : w2.heap.size < wx.heap.size := by omega
      obtain ⟨hc, hf⟩ := bcell hb
      have HBX := Lib.hid hb
      clear hb hz
      simp [depsO, Region.binds, updO, OwnS.is, OwnS.any, eaten, eats] at hd
      go_simp
      first | exact ⟨Below.refl _ _, rfl⟩ | rfl
    apply relo_is
    · intro u wx hb hd
      have hz := hb.size
      (try simp only [World.size_alloc, World.size_setCell] at hz)
      have hz0 : w.heap.size < wx.heap.size := by omega
      have hz1 : w.heap.size + 1 < wx.heap.size := by omega
      have hz2 : w.heap.size + 1 + 1 < wx.heap.size := by omega
      have hz3 : w2.heap.size < wx.heap.size := by omega
      obtain ⟨hc, hf⟩ := bcell hb
      have HBX := Lib.hid hb
      clear hb hz
      simp [depsO, Region.binds, updO, OwnS.is, OwnS.any, eaten, eats] at hd
      go_simp
      first | exact ⟨Below.refl _ _, rfl⟩ | rfl
    apply relo_is
    · intro u wx hb hd
      have hz := hb.size
      (try simp only [World.size_alloc, World.size_setCell] at hz)
      have hz0 : w.heap.size < wx.heap.size := by omega
      have hz1 : w.heap.size + 1 < wx.heap.size := by omega
      have hz2 : w.heap.size + 1 + 1 < wx.heap.size := by omega
      have hz3 : w2.heap.size < wx.heap.size := by omega
      obtain ⟨hc, hf⟩ := bcell hb
      have HBX := Lib.hid hb
      clear hb hz
      simp [depsO, Region.binds, updO, OwnS.is, OwnS.any, eaten, eats] at hd
      go_simp
      first | exact ⟨Below.refl _ _, rfl⟩ | rfl
    apply relo_is
    · intro u wx hb hd
      have hz := hb.size
      (try simp only [World.size_alloc, World.size_setCell] at hz)
      have hz0 : w.heap.size < wx.heap.size := by omega
      have hz1 : w.heap.size + 1 < wx.heap.size := by omega
      have hz2 : w.heap.size + 1 + 1 < wx.heap.size := by omega
      have hz3 : w2.heap.size < wx.heap.size := by omega
      obtain ⟨hc, hf⟩ := bcell hb
      have HBX := Lib.hid hb
      clear hb hz
      simp [depsO, Region.binds, updO, OwnS.is, OwnS.any, eaten, eats] at hd
      have hsl := HS1.out wx
      (try rw [show ((K + 1 : Nat) : Int) = (K : Int) + 1 by omega] at hsl)
      go_simp
      first | exact ⟨Below.refl _ _, rfl⟩ | rfl
    refine relo_append 0 (by decide) (by decide) (.tmp 18) (.tmp 22) 23 rfl rfl 33 iBar _ 5 72 0 K [] (flatL Br.enc ((rowL eb nb).take K)) Tryz.underlying23 hiBar hz0Bar hz1Bar hz2Bar rfl (by decide) (fun v w h => h) (fun v b h => h) (by decide) (by have := HKN.out; unfold maxLen; omega) (by have := HKN.out; omega) (by rw [flatL_len Br.enc_len, List.length_take, rowL_len, Nat.min_eq_left HKN.out]) (flatL_one Br.enc_one _) ?_ ?_
    · intro u wx hb hd
      have hz := hb.size
      (try simp only [World.size_alloc, World.size_setCell] at hz)
      have hz0 : w.heap.size < wx.heap.size := by omega
      have hz1 : w.heap.size + 1 < wx.heap.size := by omega
      have hz2 : w.heap.size + 1 + 1 < wx.heap.size := by omega
      have hz3 : w2.heap.size < wx.heap.size := by omega
      obtain ⟨hc, hf⟩ := bcell hb
      have HBX := Lib.hid hb
      clear hb hz
      simp [depsO, Region.binds, updO, OwnS.is, OwnS.any, eaten, eats] at hd
      go_simp
      exact ⟨HH1.out.1, fun ad had j u hj => HH1.out.2 _ (below_step HBW.out (below_step (w := w2) (by go_grown) HBX.out)) ad had j u hj⟩
    apply relo_is
    · intro u wx hb hd
      have hz := hb.size
      (try simp only [World.size_alloc, World.size_setCell] at hz)
      have hz0 : w.heap.size < wx.heap.size := by omega
      have hz1 : w.heap.size + 1 < wx.heap.size := by omega
      have hz2 : w.heap.size + 1 + 1 < wx.heap.size := by omega
      have hz3 : w2.heap.size < wx.heap.size := by omega
      obtain ⟨hc, hf⟩ := bcell hb
      have HBX := Lib.hid hb
      clear hb hz
      simp [depsO, Region.binds, updO, OwnS.is, OwnS.any, eaten, eats] at hd
      go_simp
      first | exact ⟨Below.refl _ _, rfl⟩ | rfl
    apply relo_is
    · intro u wx hb hd
      have hz := hb.size
      (try simp only [World.size_alloc, World.size_setCell] at hz)
      have hz0 : w.heap.size < wx.heap.size := by omega
      have hz1 : w.heap.size + 1 < wx.heap.size := by omega
      have hz2 : w.heap.size + 1 + 1 < wx.heap.size := by omega
      have hz3 : w2.heap.size < wx.heap.size := by omega
      obtain ⟨hc, hf⟩ := bcell hb
      have HBX := Lib.hid hb
      clear hb hz
      simp [depsO, Region.binds, updO, OwnS.is, OwnS.any, eaten, eats] at hd
      go_simp
      first | exact ⟨Below.refl _ _, rfl⟩ | rfl
    apply relo_is
    · intro u wx hb hd
      have hz := hb.size
      (try simp only [World.size_alloc, World.size_setCell] at hz)
      have hz0 : w.heap.size < wx.heap.size := by omega
      have hz1 : w.heap.size + 1 < wx.heap.size := by omega
      have hz2 : w.heap.size + 1 + 1 < wx.heap.size := by omega
      have hz3 : w2.heap.size < wx.heap.size := by omega
      obtain ⟨hc, hf⟩ := bcell hb
      have HBX := Lib.hid hb
      clear hb hz
      simp [depsO, Region.binds, updO, OwnS.is, OwnS.any, eaten, eats] at hd
      go_simp
      first | exact ⟨Below.refl _ _, rfl⟩ | rfl
    apply relo_is
    · intro u wx hb hd
      have hz := hb.size
      (try simp only [World.size_alloc, World.size_setCell] at hz)
      have hz0 : w.heap.size < wx.heap.size := by omega
      have hz1 : w.heap.size + 1 < wx.heap.size := by omega
      have hz2 : w.heap.size + 1 + 1 < wx.heap.size := by omega
      have hz3 : w2.heap.size < wx.heap.size := by omega
      obtain ⟨hc, hf⟩ := bcell hb
      have HBX := Lib.hid hb
      clear hb hz
      simp [depsO, Region.binds, updO, OwnS.is, OwnS.any, eaten, eats] at hd
      go_simp
      first | exact ⟨Below.refl _ _, rfl⟩ | rfl
    apply relo_is
    · intro u wx hb hd
      have hz := hb.size
      (try simp only [World.size_alloc, World.size_setCell] at hz)
      have hz0 : w.heap.size < wx.heap.size := by omega
      have hz1 : w.heap.size + 1 < wx.heap.size := by omega
      have hz2 : w.heap.size + 1 + 1 < wx.heap.size := by omega
      have hz3 : w2.heap.size < wx.heap.size := by omega
      obtain ⟨hc, hf⟩ := bcell hb
      have HBX := Lib.hid hb
      clear hb hz
      simp [depsO, Region.binds, updO, OwnS.is, OwnS.any, eaten, eats] at hd
      have hsl := HS2.out wx
      (try rw [show ((K + 1 : Nat) : Int) = (K : Int) + 1 by omega] at hsl)
      go_simp
      first | exact ⟨Below.refl _ _, rfl⟩ | rfl
    refine relo_append 5 (by decide) (by decide) (.tmp 23) (.tmp 28) 23 rfl rfl 33 iBar _ 5 72 (0 + K) (nb - (K + 1)) _ (flatL Br.enc ((rowL eb nb).drop (K + 1))) Tryz.underlying23 hiBar hz0Bar hz1Bar hz2Bar rfl (by decide) (fun v w h => h) (fun v b h => h) (by decide) (by have := HKN.out; unfold maxLen; omega) (by have := HKN.out; omega) (by rw [flatL_len Br.enc_len, List.length_drop, rowL_len]) (flatL_one Br.enc_one _) ?_ ?_
    · intro u wx hb hd
      have hz := hb.size
      (try simp only [World.size_alloc, World.size_setCell] at hz)
      have hz0 : w.heap.size < wx.heap.size := by omega
      have hz1 : w.heap.size + 1 < wx.heap.size := by omega
      have hz2 : w.heap.size + 1 + 1 < wx.heap.size := by omega
      have hz3 : w2.heap.size < wx.heap.size := by omega
      obtain ⟨hc, hf⟩ := bcell hb
      have HBX := Lib.hid hb
      clear hb hz
      simp [depsO, Region.binds, updO, OwnS.is, OwnS.any, eaten, eats] at hd
      go_simp
      exact ⟨HH2.out.1, fun ad had j u hj => HH2.out.2 _ (below_step HBW.out (below_step (w := w2) (by go_grown) HBX.out)) ad had j u hj⟩
    apply relo_is
    · intro u wx hb hd
      have hz := hb.size
      (try simp only [World.size_alloc, World.size_setCell] at hz)
      have hz0 : w.heap.size < wx.heap.size := by omega
      have hz1 : w.heap.size + 1 < wx.heap.size := by omega
      have hz2 : w.heap.size + 1 + 1 < wx.heap.size := by omega
      have hz3 : w2.heap.size < wx.heap.size := by omega
      obtain ⟨hc, hf⟩ := bcell hb
      have HBX := Lib.hid hb
      clear hb hz
      simp [depsO, Region.binds, updO, OwnS.is, OwnS.any, eaten, eats] at hd
      go_simp
      first | exact ⟨Below.refl _ _, rfl⟩ | rfl
    intro u w9 hb hE
    have e1 : u 1 = _ := endO_get hE 1 (by decide) (by decide)
    have e2 : u 2 = _ := endO_get hE 2 (by decide) (by decide)
    have e3 : u 3 = _ := endO_get hE 3 (by decide) (by decide)
    have e4 : u 4 = _ := endO_get hE 4 (by decide) (by decide)
    have e6 : u 6 = _ := endO_get hE 6 (by decide) (by decide)
    have e7 : u 7 = _ := endO_get hE 7 (by decide) (by decide)
    have e8 : u 8 = _ := endO_get hE 8 (by decide) (by decide)
    have e9 : u 9 = _ := endO_get hE 9 (by decide) (by decide)
    have e10 : u 10 = _ := endO_get hE 10 (by decide) (by decide)
    have hO2 : w9.ownsRow _ _ _ (u 11) _ _ := endO_get hE 11 (by decide) (by decide)
    obtain ⟨v2, hv2⟩ : ∃ v2, u 11 = v2 := ⟨_, rfl⟩
    rw [hv2, show 0 + K + (nb - (K + 1)) = nb - 1 by omega, show ([] : List Value) ++ flatL Br.enc ((rowL eb nb).take K) ++ flatL Br.enc ((rowL eb nb).drop (K + 1)) = flatL Br.enc (rowL (delF eb K) (nb - 1)) by rw [rowL_del eb hKn, flatL_append, List.nil_append]] at hO2
    simp only [World.size_alloc, World.size_setCell] at hO2
    have HO2 := Lib.hid hO2
    clear hO2
    have e12 : u 12 = _ := endO_get hE 12 (by decide) (by decide)
    simp only [List.drop_succ_cons, List.drop_zero, List.take_succ_cons, List.take_zero, fillL, Act.put, List.setIfInBounds_toArray, List.set_cons_zero, List.set_cons_succ, e1, e2, e3, e4, e6, e7, e8, e9, e10, hv2, e12]
    clear e1 e2 e3 e4 e6 e7 e8 e9 e10 hv2 e12 hE
    have HBw9 := Lib.hid (below_step (w := w2) (by first | assumption | go_grown) hb)
    have HBXw9 := Lib.hid hb
    have hzw9 := hb.size
    (try simp only [World.size_alloc, World.size_setCell] at hzw9)
    have hzw90 : w.heap.size < w9.heap.size := by omega
    have hzw91 : w.heap.size + 1 < w9.heap.size := by omega
    have hzw92 : w.heap.size + 1 + 1 < w9.heap.size := by omega
    have hzw93 : w2.heap.size < w9.heap.size := by omega
    obtain ⟨hcw9, hfw9⟩ := bcell hb
    clear hb hzw9
    have hs2 := owns_br HO2.out
    obtain ⟨o7, c7, rfl, -, -, -⟩ := hs2.form
    clear hs2
    have HA6 := Lib.hid (owns_br HO2.out)
    have HM7 := Lib.hid (owns_new HO2.out)
    have HBP : Hid (Below w2.heap.size w2 w9) := by
      show Below _ _ _
      exact HBw9.out
    have y0 : w9.cell? ⟨w2.heap.size, 0, none⟩ = some (.slice o1 ns c1) := (HBXw9.out.cell (p := ⟨_, _, none⟩) (by simp <;> omega)).trans (by simp [go_sem])
    have yf0 : w9.frozen? ⟨w2.heap.size, 0, none⟩ = false := (HBXw9.out.frozen (p := ⟨_, _, none⟩) (by simp <;> omega)).trans (by simp [go_sem])
    have yr0 : w9.cell? ⟨w.heap.size + 1, 0, none⟩ = some (.slice none 0 0) := (HBP.out.cell (p := ⟨_, _, none⟩) zrw2).trans r0w2
    have yrf0 : w9.frozen? ⟨w.heap.size + 1, 0, none⟩ = false := (HBP.out.frozen (p := ⟨_, _, none⟩) zrw2).trans fr0w2
    have y1 : w9.cell? ⟨w2.heap.size, 1, none⟩ = some (.slice o2 nb c2) := (HBXw9.out.cell (p := ⟨_, _, none⟩) (by simp <;> omega)).trans (by simp [go_sem])
    have yf1 : w9.frozen? ⟨w2.heap.size, 1, none⟩ = false := (HBXw9.out.frozen (p := ⟨_, _, none⟩) (by simp <;> omega)).trans (by simp [go_sem])
    have yr1 : w9.cell? ⟨w.heap.size + 1, 1, none⟩ = some (.slice none 0 0) := (HBP.out.cell (p := ⟨_, _, none⟩) zrw2).trans r1w2
    have yrf1 : w9.frozen? ⟨w.heap.size + 1, 1, none⟩ = false := (HBP.out.frozen (p := ⟨_, _, none⟩) zrw2).trans fr1w2
    have yx0 : w9.cell? ⟨w.heap.size + 1 + 1, 0, none⟩ = some (.string ⟨#[]⟩) := (HBP.out.cell (p := ⟨_, _, none⟩) zxw2).trans x0w2
    have yxf0 : w9.frozen? ⟨w.heap.size + 1 + 1, 0, none⟩ = false := (HBP.out.frozen (p := ⟨_, _, none⟩) zxw2).trans fx0w2
    have yx1 : w9.cell? ⟨w.heap.size + 1 + 1, 1, none⟩ = some (.string ⟨#[]⟩) := (HBP.out.cell (p := ⟨_, _, none⟩) zxw2).trans x1w2
    have yxf1 : w9.frozen? ⟨w.heap.size + 1 + 1, 1, none⟩ = false := (HBP.out.frozen (p := ⟨_, _, none⟩) zxw2).trans fx1w2
    have yx2 : w9.cell? ⟨w.heap.size + 1 + 1, 2, none⟩ = some (.string ⟨#[]⟩) := (HBP.out.cell (p := ⟨_, _, none⟩) zxw2).trans x2w2
    have yxf2 : w9.frozen? ⟨w.heap.size + 1 + 1, 2, none⟩ = false := (HBP.out.frozen (p := ⟨_, _, none⟩) zxw2).trans fx2w2
    have yx3 : w9.cell? ⟨w.heap.size + 1 + 1, 3, none⟩ = some (.int .i64 0) := (HBP.out.cell (p := ⟨_, _, none⟩) zxw2).trans x3w2
    have yxf3 : w9.frozen? ⟨w.heap.size + 1 + 1, 3, none⟩ = false := (HBP.out.frozen (p := ⟨_, _, none⟩) zxw2).trans fx3w2
    have yx4 : w9.cell? ⟨w.heap.size + 1 + 1, 4, none⟩ = some (.string ⟨#[]⟩) := (HBP.out.cell (p := ⟨_, _, none⟩) zxw2).trans x4w2
    have yxf4 : w9.frozen? ⟨w.heap.size + 1 + 1, 4, none⟩ = false := (HBP.out.frozen (p := ⟨_, _, none⟩) zxw2).trans fx4w2
    obtain ⟨b1, f1, rfl, hbl1, hcl1⟩ := HEL.out K hKn
    have HBW9 : Hid (Below w.heap.size w w9) := by
      show Below _ _ _
      exact below_step HBW.out HBw9.out
    have e0 : w9.cell? ⟨b1, f1 + K * 5, none⟩ = some (.string (eb K).id) := (HBW9.out.cell (p := ⟨_, _, none⟩) hbl1).trans (hcl1 K hKn).1
    have e1 : w9.cell? ⟨b1, f1 + K * 5 + 1, none⟩ = some (.string (eb K).sect) := (HBW9.out.cell (p := ⟨_, _, none⟩) hbl1).trans (hcl1 K hKn).2.1
    have e2 : w9.cell? ⟨b1, f1 + K * 5 + 2, none⟩ = some (.string (eb K).grade) := (HBW9.out.cell (p := ⟨_, _, none⟩) hbl1).trans (hcl1 K hKn).2.2.1
    have e3 : w9.cell? ⟨b1, f1 + K * 5 + 3, none⟩ = some (.int .i64 (eb K).len) := (HBW9.out.cell (p := ⟨_, _, none⟩) hbl1).trans (hcl1 K hKn).2.2.2.1
    have e4 : w9.cell? ⟨b1, f1 + K * 5 + 4, none⟩ = some (.string (eb K).heat) := (HBW9.out.cell (p := ⟨_, _, none⟩) hbl1).trans (hcl1 K hKn).2.2.2.2
    have hbr : b1 < w9.heap.size := by have := HBW9.out.size; omega
    have hbn : b1 < w.heap.size := hbl1
    clear hcl1
    have kk0 : (0 : Int) ≤ (K : Int) := by omega
    have kk1 : (K : Int) < (nb : Int) := by omega
    have HRB9 : Hid (w9.heap[w.heap.size + 1]? = some (.cells #[.slice none 0 0, .slice none 0 0] 25)) := (HBP.out.block _ zrw2).trans HRB2.out
    have hPx : Below w.heap.size w (w9.setCell ⟨w2.heap.size, 1, none⟩ (.slice o7 (nb - 1) c7)) := (HBW9.out).setCell (by dsimp only; omega) _
    have hPz : Below w2.heap.size w2 (w9.setCell ⟨w2.heap.size, 1, none⟩ (.slice o7 (nb - 1) c7)) := (HBP.out).setCell (Nat.le_refl _) _
    go_wp2_with fail
    refine wp_region_seq 7 [] [⟨w.heap.size + 1, 6, #[.slice none 0 0, .slice none 0 0], 25⟩] (by kernel_rfl) (by kernel_rfl) (by kernel_rfl) (by kernel_rfl) (by kernel_rfl) ?_ ?_ ?_
    · intro r hr
      simp only [List.mem_singleton] at hr
      subst hr
      have x0 := HRB9.out
      refine ⟨by show w.heap.size + 1 < _; first | omega | (simp <;> omega), ?_⟩
      show _[w.heap.size + 1]? = _
      first | assumption | (simp (disch := (first | omega | (simp only [World.size_alloc, World.size_setCell] <;> omega))) only [x0, heapA_at, heapA_old, heapS_same, heapS_other, setObj, Option.map_some]; done)
    · intro r hr s hs h
      simp only [List.mem_singleton] at hr hs
      subst hr hs
      exact absurd rfl h
    simp only [List.take_succ_cons, List.take_zero, fillL, Act.put, List.setIfInBounds_toArray, List.set_cons_zero, List.set_cons_succ]
    apply seq_is (by kernel_rfl)
    · intro u wx hb hd
      have hz := hb.size
      (try simp only [World.size_alloc, World.size_setCell] at hz)
      have hz0 : w.heap.size < wx.heap.size := by omega
      have hz1 : w.heap.size + 1 < wx.heap.size := by omega
      have hz2 : w.heap.size + 1 + 1 < wx.heap.size := by omega
      have hz3 : w2.heap.size < wx.heap.size := by omega
      have hz4 : b1 < wx.heap.size := by omega
      obtain ⟨kc0, kf0⟩ := hb.cell (w.heap.size) (by first | omega | (simp <;> omega)) (by intro r hr; simp only [List.mem_singleton] at hr; subst hr; show w.heap.size + 1 ≠ w.heap.size; omega)
      obtain ⟨kc2, kf2⟩ := hb.cell (w.heap.size + 1 + 1) (by first | omega | (simp <;> omega)) (by intro r hr; simp only [List.mem_singleton] at hr; subst hr; show w.heap.size + 1 ≠ w.heap.size + 1 + 1; omega)
      obtain ⟨kc3, kf3⟩ := hb.cell (w2.heap.size) (by first | omega | (simp <;> omega)) (by intro r hr; simp only [List.mem_singleton] at hr; subst hr; show w.heap.size + 1 ≠ w2.heap.size; omega)
      obtain ⟨kc4, kf4⟩ := hb.cell (b1) (by first | omega | (simp <;> omega)) (by intro r hr; simp only [List.mem_singleton] at hr; subst hr; show w.heap.size + 1 ≠ b1; omega)
      clear hb hz
      simp [depsE, Region.binds, updE, kindOf, Prp.is, Prp.any] at hd
      go_simp
      first | exact ⟨Below.refl _ _, rfl⟩ | rfl
    apply seq_is (by kernel_rfl)
    · intro u wx hb hd
      have hz := hb.size
      (try simp only [World.size_alloc, World.size_setCell] at hz)
      have hz0 : w.heap.size < wx.heap.size := by omega
      have hz1 : w.heap.size + 1 < wx.heap.size := by omega
      have hz2 : w.heap.size + 1 + 1 < wx.heap.size := by omega
      have hz3 : w2.heap.size < wx.heap.size := by omega
      have hz4 : b1 < wx.heap.size := by omega
      obtain ⟨kc0, kf0⟩ := hb.cell (w.heap.size) (by first | omega | (simp <;> omega)) (by intro r hr; simp only [List.mem_singleton] at hr; subst hr; show w.heap.size + 1 ≠ w.heap.size; omega)
      obtain ⟨kc2, kf2⟩ := hb.cell (w.heap.size + 1 + 1) (by first | omega | (simp <;> omega)) (by intro r hr; simp only [List.mem_singleton] at hr; subst hr; show w.heap.size + 1 ≠ w.heap.size + 1 + 1; omega)
      obtain ⟨kc3, kf3⟩ := hb.cell (w2.heap.size) (by first | omega | (simp <;> omega)) (by intro r hr; simp only [List.mem_singleton] at hr; subst hr; show w.heap.size + 1 ≠ w2.heap.size; omega)
      obtain ⟨kc4, kf4⟩ := hb.cell (b1) (by first | omega | (simp <;> omega)) (by intro r hr; simp only [List.mem_singleton] at hr; subst hr; show w.heap.size + 1 ≠ b1; omega)
      clear hb hz
      simp [depsE, Region.binds, updE, kindOf, Prp.is, Prp.any] at hd
      go_simp
      first | exact ⟨Below.refl _ _, rfl⟩ | rfl
    apply seq_is (by kernel_rfl)
    · intro u wx hb hd
      have hz := hb.size
      (try simp only [World.size_alloc, World.size_setCell] at hz)
      have hz0 : w.heap.size < wx.heap.size := by omega
      have hz1 : w.heap.size + 1 < wx.heap.size := by omega
      have hz2 : w.heap.size + 1 + 1 < wx.heap.size := by omega
      have hz3 : w2.heap.size < wx.heap.size := by omega
      have hz4 : b1 < wx.heap.size := by omega
      obtain ⟨kc0, kf0⟩ := hb.cell (w.heap.size) (by first | omega | (simp <;> omega)) (by intro r hr; simp only [List.mem_singleton] at hr; subst hr; show w.heap.size + 1 ≠ w.heap.size; omega)
      obtain ⟨kc2, kf2⟩ := hb.cell (w.heap.size + 1 + 1) (by first | omega | (simp <;> omega)) (by intro r hr; simp only [List.mem_singleton] at hr; subst hr; show w.heap.size + 1 ≠ w.heap.size + 1 + 1; omega)
      obtain ⟨kc3, kf3⟩ := hb.cell (w2.heap.size) (by first | omega | (simp <;> omega)) (by intro r hr; simp only [List.mem_singleton] at hr; subst hr; show w.heap.size + 1 ≠ w2.heap.size; omega)
      obtain ⟨kc4, kf4⟩ := hb.cell (b1) (by first | omega | (simp <;> omega)) (by intro r hr; simp only [List.mem_singleton] at hr; subst hr; show w.heap.size + 1 ≠ b1; omega)
      clear hb hz
      simp [depsE, Region.binds, updE, kindOf, Prp.is, Prp.any] at hd
      go_simp
      first | exact ⟨Below.refl _ _, rfl⟩ | rfl
    apply seq_is (by kernel_rfl)
    · intro u wx hb hd
      have hz := hb.size
      (try simp only [World.size_alloc, World.size_setCell] at hz)
      have hz0 : w.heap.size < wx.heap.size := by omega
      have hz1 : w.heap.size + 1 < wx.heap.size := by omega
      have hz2 : w.heap.size + 1 + 1 < wx.heap.size := by omega
      have hz3 : w2.heap.size < wx.heap.size := by omega
      have hz4 : b1 < wx.heap.size := by omega
      obtain ⟨kc0, kf0⟩ := hb.cell (w.heap.size) (by first | omega | (simp <;> omega)) (by intro r hr; simp only [List.mem_singleton] at hr; subst hr; show w.heap.size + 1 ≠ w.heap.size; omega)
      obtain ⟨kc2, kf2⟩ := hb.cell (w.heap.size + 1 + 1) (by first | omega | (simp <;> omega)) (by intro r hr; simp only [List.mem_singleton] at hr; subst hr; show w.heap.size + 1 ≠ w.heap.size + 1 + 1; omega)
      obtain ⟨kc3, kf3⟩ := hb.cell (w2.heap.size) (by first | omega | (simp <;> omega)) (by intro r hr; simp only [List.mem_singleton] at hr; subst hr; show w.heap.size + 1 ≠ w2.heap.size; omega)
      obtain ⟨kc4, kf4⟩ := hb.cell (b1) (by first | omega | (simp <;> omega)) (by intro r hr; simp only [List.mem_singleton] at hr; subst hr; show w.heap.size + 1 ≠ b1; omega)
      clear hb hz
      simp [depsE, Region.binds, updE, kindOf, Prp.is, Prp.any] at hd
      go_simp
      first | exact ⟨Below.refl _ _, rfl⟩ | rfl
    apply seq_is (by kernel_rfl)
    · intro u wx hb hd
      have hz := hb.size
      (try simp only [World.size_alloc, World.size_setCell] at hz)
      have hz0 : w.heap.size < wx.heap.size := by omega
      have hz1 : w.heap.size + 1 < wx.heap.size := by omega
      have hz2 : w.heap.size + 1 + 1 < wx.heap.size := by omega
      have hz3 : w2.heap.size < wx.heap.size := by omega
      have hz4 : b1 < wx.heap.size := by omega
      obtain ⟨kc0, kf0⟩ := hb.cell (w.heap.size) (by first | omega | (simp <;> omega)) (by intro r hr; simp only [List.mem_singleton] at hr; subst hr; show w.heap.size + 1 ≠ w.heap.size; omega)
      obtain ⟨kc2, kf2⟩ := hb.cell (w.heap.size + 1 + 1) (by first | omega | (simp <;> omega)) (by intro r hr; simp only [List.mem_singleton] at hr; subst hr; show w.heap.size + 1 ≠ w.heap.size + 1 + 1; omega)
      obtain ⟨kc3, kf3⟩ := hb.cell (w2.heap.size) (by first | omega | (simp <;> omega)) (by intro r hr; simp only [List.mem_singleton] at hr; subst hr; show w.heap.size + 1 ≠ w2.heap.size; omega)
      obtain ⟨kc4, kf4⟩ := hb.cell (b1) (by first | omega | (simp <;> omega)) (by intro r hr; simp only [List.mem_singleton] at hr; subst hr; show w.heap.size + 1 ≠ b1; omega)
      clear hb hz
      simp [depsE, Region.binds, updE, kindOf, Prp.is, Prp.any] at hd
      go_simp
      first | exact ⟨Below.refl _ _, rfl⟩ | rfl
    apply seq_is (by kernel_rfl)
    · intro u wx hb hd
      have hz := hb.size
      (try simp only [World.size_alloc, World.size_setCell] at hz)
      have hz0 : w.heap.size < wx.heap.size := by omega
      have hz1 : w.heap.size + 1 < wx.heap.size := by omega
      have hz2 : w.heap.size + 1 + 1 < wx.heap.size := by omega
      have hz3 : w2.heap.size < wx.heap.size := by omega
      have hz4 : b1 < wx.heap.size := by omega
      obtain ⟨kc0, kf0⟩ := hb.cell (w.heap.size) (by first | omega | (simp <;> omega)) (by intro r hr; simp only [List.mem_singleton] at hr; subst hr; show w.heap.size + 1 ≠ w.heap.size; omega)
      obtain ⟨kc2, kf2⟩ := hb.cell (w.heap.size + 1 + 1) (by first | omega | (simp <;> omega)) (by intro r hr; simp only [List.mem_singleton] at hr; subst hr; show w.heap.size + 1 ≠ w.heap.size + 1 + 1; omega)
      obtain ⟨kc3, kf3⟩ := hb.cell (w2.heap.size) (by first | omega | (simp <;> omega)) (by intro r hr; simp only [List.mem_singleton] at hr; subst hr; show w.heap.size + 1 ≠ w2.heap.size; omega)
      obtain ⟨kc4, kf4⟩ := hb.cell (b1) (by first | omega | (simp <;> omega)) (by intro r hr; simp only [List.mem_singleton] at hr; subst hr; show w.heap.size + 1 ≠ b1; omega)
      clear hb hz
      simp [depsE, Region.binds, updE, kindOf, Prp.is, Prp.any] at hd
      go_simp
      first | exact ⟨Below.refl _ _, rfl⟩ | rfl
    apply seq_pre_agg ⟨w.heap.size + 1, 6, #[.slice none 0 0, .slice none 0 0], 25⟩ (by simp) rfl (by kernel_rfl) rfl
    · intro u wx hb hd
      have hz := hb.size
      (try simp only [World.size_alloc, World.size_setCell] at hz)
      have hz0 : w.heap.size < wx.heap.size := by omega
      have hz1 : w.heap.size + 1 < wx.heap.size := by omega
      have hz2 : w.heap.size + 1 + 1 < wx.heap.size := by omega
      have hz3 : w2.heap.size < wx.heap.size := by omega
      have hz4 : b1 < wx.heap.size := by omega
      obtain ⟨kc0, kf0⟩ := hb.cell (w.heap.size) (by first | omega | (simp <;> omega)) (by intro r hr; simp only [List.mem_singleton] at hr; subst hr; show w.heap.size + 1 ≠ w.heap.size; omega)
      obtain ⟨kc2, kf2⟩ := hb.cell (w.heap.size + 1 + 1) (by first | omega | (simp <;> omega)) (by intro r hr; simp only [List.mem_singleton] at hr; subst hr; show w.heap.size + 1 ≠ w.heap.size + 1 + 1; omega)
      obtain ⟨kc3, kf3⟩ := hb.cell (w2.heap.size) (by first | omega | (simp <;> omega)) (by intro r hr; simp only [List.mem_singleton] at hr; subst hr; show w.heap.size + 1 ≠ w2.heap.size; omega)
      obtain ⟨kc4, kf4⟩ := hb.cell (b1) (by first | omega | (simp <;> omega)) (by intro r hr; simp only [List.mem_singleton] at hr; subst hr; show w.heap.size + 1 ≠ b1; omega)
      clear hb hz
      simp [depsE, Region.binds, updE, kindOf, Prp.is, Prp.any] at hd
      refine ⟨by simp [Region.wanted], fun hcells => ?_⟩
      have hcells' : wx.heap[w.heap.size + 1]? = some (.cells #[.slice none 0 0, .slice none 0 0] 25) := hcells
      have hat := cells_at2 hcells'
      have HCL := Lib.hid hcells'
      clear hcells hcells'
      go_simp
      exact Stored.c2 HCL.out _ _
    intro u w10 hb hE hV hP
    have e0 : u 0 = _ := endE_get hE 0 (by decide) (by simp [kindOf])
    have e1 : u 1 = _ := endE_get hE 1 (by decide) (by simp [kindOf])
    have e2 : u 2 = _ := endE_get hE 2 (by decide) (by simp [kindOf])
    have e3 : u 3 = _ := endE_get hE 3 (by decide) (by simp [kindOf])
    have e4 : u 4 = _ := endE_get hE 4 (by decide) (by simp [kindOf])
    have e5 : u 5 = _ := endE_get hE 5 (by decide) (by simp [kindOf])
    have e6 : u 6 = _ := endE_get hE 6 (by decide) (by simp [kindOf])
    clear hV
    have qp : w10.heap[w.heap.size + 1]? = some (.cells (u 6).cells 25) := hP.1
    rw [e6] at qp
    obtain ⟨mpw100, mpw101, mpfw10, mpsw10⟩ := cells_at2 qp
    have HPw10 := Lib.hid qp
    clear qp hP
    simp only [List.drop_succ_cons, List.drop_zero, List.take_succ_cons, List.take_zero, fillL, Act.put, List.setIfInBounds_toArray, List.set_cons_zero, List.set_cons_succ, e0, e1, e2, e3, e4, e5, e6]
    clear e0 e1 e2 e3 e4 e5 e6 hE
    have hw10 : Below w.heap.size w w10 := Below.trans (by first | assumption | go_grown) (hb.below (B := w.heap.size) (by first | omega | (simp <;> omega)) (by intro r hr; simp only [List.mem_singleton] at hr; subst hr; show w.heap.size ≤ w.heap.size + 1; omega))
    have hzw10 := hb.size
    (try simp only [World.size_alloc, World.size_setCell] at hzw10)
    have hzw100 : w.heap.size < w10.heap.size := by omega
    have hzw101 : w.heap.size + 1 < w10.heap.size := by omega
    have hzw102 : w.heap.size + 1 + 1 < w10.heap.size := by omega
    have hzw103 : w2.heap.size < w10.heap.size := by omega
    have hzw104 : b1 < w10.heap.size := by omega
    obtain ⟨hcw100, hfw100⟩ := hb.cell (w.heap.size) (by first | omega | (simp <;> omega)) (by intro r hr; simp only [List.mem_singleton] at hr; subst hr; show w.heap.size + 1 ≠ w.heap.size; omega)
    obtain ⟨hcw102, hfw102⟩ := hb.cell (w.heap.size + 1 + 1) (by first | omega | (simp <;> omega)) (by intro r hr; simp only [List.mem_singleton] at hr; subst hr; show w.heap.size + 1 ≠ w.heap.size + 1 + 1; omega)
    obtain ⟨hcw103, hfw103⟩ := hb.cell (w2.heap.size) (by first | omega | (simp <;> omega)) (by intro r hr; simp only [List.mem_singleton] at hr; subst hr; show w.heap.size + 1 ≠ w2.heap.size; omega)
    obtain ⟨hcw104, hfw104⟩ := hb.cell (b1) (by first | omega | (simp <;> omega)) (by intro r hr; simp only [List.mem_singleton] at hr; subst hr; show w.heap.size + 1 ≠ b1; omega)
    have HKP := Lib.hid hb
    clear hb hzw10
    have HBV := Lib.hid hw10
    have hz2' := hz2.out
    have hz3' := hz3.out
    have hw89 : w2.heap.size ≤ w9.heap.size := HBP.out.size
    have HA9 := Lib.hid (kept_br HKP.out (br_set HA6.out HM7.out (w2.heap.size) 1 (.slice o7 (nb - 1) c7) (by omega)) HM7.out (by intro r hr; simp only [List.mem_singleton] at hr; subst hr; dsimp only; omega))
    have HB9 := Lib.hid (kept_sh HKP.out (H1.out.below hPz) H3.out (by intro r hr; simp only [List.mem_singleton] at hr; subst hr; dsimp only; omega))
    go_wp2
    all_goals (refine bodyPost_ret (v := .tuple #[.agg #[.slice o1 ns c1, .slice o7 (nb - 1) c7], .agg #[.string (eb K).id, .string (eb K).sect, .string (eb K).grade, .int .i64 (eb K).len, .string (eb K).heat], .int .i64 0]) (by simp (maxDischargeDepth := 9) [results, Tryz.results17, go_sem, *]) rfl ?_)
    rw [HZ.out.1, HZ.out.2.1, HZ.out.2.2.1, HZ.out.2.2.2]
    refine ⟨_, rfl, ⟨_, _, rfl, ?_, ?_⟩, ?_⟩
    · exact sh_set (sh_set (sh_set (sh_set (sh_set (HB9.out) H3.out _ _ _ (by omega)) H3.out _ _ _ (by omega)) H3.out _ _ _ (by omega)) H3.out _ _ _ (by omega)) H3.out _ _ _ (by omega)
    · exact br_set (br_set (br_set (br_set (br_set (HA9.out) HM7.out _ _ _ (by omega)) HM7.out _ _ _ (by omega)) HM7.out _ _ _ (by omega)) HM7.out _ _ _ (by omega)) HM7.out _ _ _ (by omega)
    · exact (((((HBV.out).setCell (by dsimp only; omega) _).setCell (by dsimp only; omega) _).setCell (by dsimp only; omega) _).setCell (by dsimp only; omega) _).setCell (by dsimp only; omega) _
  · have k1 : decide (AT < 0) = true := decide_eq_true (by have h2 := HAT.out; unfold atE at h2; rw [if_neg hfd] at h2; omega)
    have HZ : Hid (RR = 8 ∧ X = Br.none ∧ NS = 0 ∧ NB = 0) := by
      have h1 : RR = 8 := by rw [← HRR.out]; unfold takeE; rw [if_neg hfd]
      exact ⟨h1, by rw [← HX.out]; unfold takeV; rw [if_neg hfd], by rw [← HNS.out, if_neg (by rw [h1]; decide)], by rw [← HNB.out, if_neg (by rw [h1]; decide)]⟩
    go_wp2
    all_goals (refine bodyPost_ret (v := .tuple #[.agg #[.slice none 0 0, .slice none 0 0], .agg #[.string ⟨#[]⟩, .string ⟨#[]⟩, .string ⟨#[]⟩, .int .i64 0, .string ⟨#[]⟩], .int .i64 8]) (by simp (maxDischargeDepth := 9) [results, Tryz.results17, go_sem, *]) rfl ?_)
    rw [HZ.out.1, HZ.out.2.1, HZ.out.2.2.1, HZ.out.2.2.2]
    exact ⟨_, rfl, St_zero _ _ _, by go_grown⟩
end Go.Proofs.YtiddpaaihloopaaGreatDoor
