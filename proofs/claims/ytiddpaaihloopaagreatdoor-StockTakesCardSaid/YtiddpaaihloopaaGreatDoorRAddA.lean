/-
  The reference's sheetAt, barAt, copied, by walks. Conditions: stocks of at most 10^6 elements. By an AI agent.
-/
import Derived.Test.YtiddpaaihloopaaGreatDoorStA
import Derived.Test.YtiddpaaihloopaaGreatDoorOwn
namespace Go.Proofs.YtiddpaaihloopaaGreatDoor
open Go Go.ChangeShapes Go.WideShapes Go.RowKit Go.ChangeAt
set_option linter.unusedVariables false
set_option linter.unusedSimpArgs false
set_option maxRecDepth 100000
theorem ownsRow_built0 (w : World) (t : TypeId) (k : Nat) {B : Nat} (h : B ≤ w.heap.size) : (w.alloc (.cells #[] t)).ownsRow B t k (.slice (some ⟨w.heap.size, 0, none⟩) 0 0) 0 [] :=
  ⟨by simp, .inr ⟨w.heap.size, 0, #[], rfl, h, (MapKept.heap_alloc w _).1, Nat.le_refl _, by decide, by simp, by simp⟩⟩
/-- where an identifier stands first -/
def atN {α : Type} (f : α → ByteArray) (e : Nat → α) (n : Nat) (s : ByteArray) : Nat := firstFrom (fun i => (f (e i)).toList == s.toList) n 0
theorem at_found {α : Type} {f : α → ByteArray} {e : Nat → α} {n : Nat} {s : ByteArray} (ha : AscB f e n) : atN f e n s = if foundB f e n s = true then placeI f e n s else n := by
  split
  · rename_i h
    obtain ⟨k, hk, hks⟩ := (found_iff ha).1 h
    subst hks
    rw [found_at ha hk]
    refine firstFrom_is (by omega) (fun j hj => ?_) (fun _ => beq_self_eq_true _)
    have := ha j k hj hk
    cases hq : ((f (e j)).toList == (f (e k)).toList) with
    | false => rfl
    | true =>
      have he := beq_iff_eq.1 hq
      unfold ltB at this
      rw [he] at this
      have h2 := ltB_irrefl (f (e k))
      unfold ltB at h2
      rw [h2] at this
      cases this
  · rename_i h
    refine firstFrom_is (Nat.le_refl _) (fun j hj => ?_) (fun h => absurd h (by omega))
    cases hq : ((f (e j)).toList == s.toList) with
    | false => rfl
    | true => exact absurd ((found_iff ha).2 ⟨j, hj, toList_inj (beq_iff_eq.1 hq)⟩) h
def atE {α : Type} (f : α → ByteArray) (e : Nat → α) (n : Nat) (s : ByteArray) : Int := if foundB f e n s = true then (placeI f e n s : Int) else -1
/-- a part of a row -/
theorem part_flat {α : Type} {enc : α → List Value} {k : Nat} (hk : ∀ x, (enc x).length = k) (l : List α) (i : Nat) (j : Nat) (u : Value) (h : (flatL enc (l.drop i))[j]? = some u) : (flatL enc l)[i * k + j]? = some u := by
  rw [← flatL_drop hk, List.getElem?_drop] at h
  exact h
theorem part_take {α : Type} {enc : α → List Value} {k : Nat} (hk : ∀ x, (enc x).length = k) (l : List α) (i : Nat) (j : Nat) (u : Value) (h : (flatL enc (l.take i))[j]? = some u) : (flatL enc l)[j]? = some u := by
  rw [← flatL_take hk, List.getElem?_take] at h
  split at h
  · exact h
  · cases h

theorem head_Sheet {w : World} {oa : Option Addr} {n c i : Nat} {e : Nat → Sh} (h : ShAt w (.slice oa n c) n e) (hi : i ≤ n) :
    ∃ (o1 : Option Addr) (c1 : Nat), (∀ W, (Instr.slice 22 (.slice oa n c) none (some (.int .i64 i)) none).run Tryz.prog W = .ok (.slice o1 i c1) W) ∧ (o1 = none → i = 0) ∧ ∀ wx, Below w.heap.size w wx → ∀ ad, o1 = some ad → ∀ j u, (flatL Sh.enc ((rowL e n).take i))[j]? = some u → wx.cell? (ad.add j) = some u := by
  obtain ⟨h0, h1⟩ := flat_ok_Sheet h
  obtain ⟨oa', c', he, hc, hc2, hel⟩ := h.form
  cases he
  refine ⟨if c = 0 then oa else oa.map (·.add (0 * 6)), c, fun W => ?_, fun hn => ?_, fun wx hb ad had j u hj => ?_⟩
  · rw [run_slice_h W 22 oa n c Tryz.underlying22 .i64 (i : Int) (by omega) (by omega)]
    show Result.ok (sliced oa 0 (i : Int).toNat c 6) W = _
    simp [sliced]
  · split at hn
    · rename_i hz
      have := h0 hn
      omega
    · have := h0 (by simpa using hn)
      omega
  · split at had
    · exact h1 wx hb ad had j u (part_take Sh.enc_len _ _ _ _ hj)
    · cases oa with
      | none => cases had
      | some a =>
        simp only [Option.map_some, Option.some.injEq] at had
        subst had
        have := h1 wx hb a rfl j u (part_take Sh.enc_len _ _ _ _ hj)
        rwa [Nat.zero_mul, Addr.add_add, Nat.zero_add]
theorem tail_Sheet {w : World} {oa : Option Addr} {n c i : Nat} {e : Nat → Sh} (h : ShAt w (.slice oa n c) n e) (hi : i ≤ n) :
    ∃ (o1 : Option Addr) (c1 : Nat), (∀ W, (Instr.slice 22 (.slice oa n c) (some (.int .i64 i)) none none).run Tryz.prog W = .ok (.slice o1 (n - i) c1) W) ∧ (o1 = none → n - i = 0) ∧ ∀ wx, Below w.heap.size w wx → ∀ ad, o1 = some ad → ∀ j u, (flatL Sh.enc ((rowL e n).drop i))[j]? = some u → wx.cell? (ad.add j) = some u := by
  obtain ⟨h0, h1⟩ := flat_ok_Sheet h
  obtain ⟨oa', c', he, hc, hc2, hel⟩ := h.form
  cases he
  refine ⟨if c = i then oa else oa.map (·.add (i * 6)), c - i, fun W => ?_, fun hn => ?_, fun wx hb ad had j u hj => ?_⟩
  · rw [run_slice_l W 22 oa n c Tryz.underlying22 .i64 (i : Int) (by omega) (by omega)]
    show Result.ok (sliced oa (i : Int).toNat n c 6) W = _
    simp [sliced]
  · split at hn
    · rename_i hz
      have := h0 hn
      omega
    · have := h0 (by simpa using hn)
      omega
  · split at had
    · rename_i hz
      have hlen : (flatL Sh.enc ((rowL e n).drop i)).length = 0 := by rw [flatL_len Sh.enc_len, List.length_drop, rowL_len, show n - i = 0 by omega, Nat.zero_mul]
      rw [List.getElem?_eq_none (by omega)] at hj
      cases hj
    · cases oa with
      | none => cases had
      | some a =>
        simp only [Option.map_some, Option.some.injEq] at had
        subst had
        have := h1 wx hb a rfl (i * 6 + j) u (part_flat Sh.enc_len _ _ _ _ hj)
        rwa [Addr.add_add]

set_option maxHeartbeats 4000000 in
theorem rat_Sheet (v : Value) (ns : Nat) (es : Nat → Sh) (nb : Nat) (eb : Nat → Br) (s : ByteArray) (w : World) (h : StAt w v ns es nb eb) (ha : AscB Sh.id es ns) :
    Calls Tryz.prog 33 #[v, .string s] w fun e w' => e = .returned (.int .i64 (atE Sh.id es ns s)) ∧ Below w.heap.size w w' := by
  obtain ⟨va, vb, rfl, hSh, hBr⟩ := h
  have HSH := Lib.hid hSh
  have HBR := Lib.hid hBr
  obtain ⟨oa, ca, rfl, hna, hca, hela⟩ := hSh.form
  obtain ⟨ob, cb, rfl, hnb, hcb, helb⟩ := hBr.form
  have HELA := Lib.hid hela
  have HELB := Lib.hid helb
  clear HSH HBR hSh hBr hela helb
  obtain ⟨F, hF⟩ : ∃ F, atN Sh.id es ns s = F := ⟨_, rfl⟩
  obtain ⟨D, hD⟩ : ∃ D, atE Sh.id es ns s = D := ⟨_, rfl⟩
  have HF : Hid (firstFrom (fun i => (Sh.id (es i)).toList == s.toList) ns 0 = F) := hF
  have HD : Hid ((F < ns → D = F) ∧ (F = ns → D = -1)) := by
    show _ ∧ _
    rw [at_found ha] at hF
    unfold atE at hD
    split at hF
    · rename_i hf
      rw [if_pos hf] at hD
      refine ⟨fun _ => by omega, fun hq => ?_⟩
      obtain ⟨q, hq1, hq2⟩ := (found_iff ha).1 hf
      subst hq2
      rw [found_at ha hq1] at hF
      omega
    · rename_i hf
      rw [if_neg hf] at hD
      exact ⟨fun _ => by omega, fun _ => hD.symm⟩
  rw [hD]
  clear hF hD
  go_enter Tryz.func33, Tryz.ntmps33
  go_wp2
  go_loopw [5] (fun i wr => ∃ j : Nat, j ≤ ns ∧ i = .int .i64 j ∧ Hid (firstFrom (fun i => (Sh.id (es i)).toList == s.toList) (ns - j) j = F) ∧ Below (w.alloc (.cells #[.slice oa ns ca, .slice ob nb cb] 25)).heap.size (w.alloc (.cells #[.slice oa ns ca, .slice ob nb cb] 25)) wr) (fun i _ => ns - (intOf i).toNat)
  case atStart => exact ⟨0, by omega, rfl, HF.out, Below.refl _ _⟩
  case round =>
    obtain ⟨j, hj, rfl, hq, hB⟩ := hrel
    have HBr : Hid (Below w.heap.size w wr) := by
      show Below _ _ _
      exact below_step (w := w) (by go_grown) hB
    have HBX := Lib.hid hB
    have hs0 := hB.size
    (try simp only [World.size_alloc, World.size_setCell] at hs0)
    have z0 : w.heap.size < wr.heap.size := by omega
    have s0 : wr.cell? ⟨w.heap.size, 0, none⟩ = some (.slice oa ns ca) := (hB.cell (p := ⟨_, _, none⟩) (by simp <;> omega)).trans (by simp [go_sem])
    have s1 : wr.cell? ⟨w.heap.size, 1, none⟩ = some (.slice ob nb cb) := (hB.cell (p := ⟨_, _, none⟩) (by simp <;> omega)).trans (by simp [go_sem])
    clear hs0 hB
    by_cases hlt : j < ns
    · obtain ⟨b1, f1, rfl, hbl1, hcl1⟩ := HELA.out j hlt
      have c0 : wr.cell? ⟨b1, f1 + j * 6, none⟩ = some (.string (es j).id) := (HBr.out.cell (p := ⟨_, _, none⟩) hbl1).trans (hcl1 j hlt).1
      have hbr : b1 < wr.heap.size := by omega
      clear hcl1
      by_cases h1 : ((es j).id.toList == s.toList) = true
      · have hFj : F = j := hq.out.symm.trans (firstFrom_hit hlt h1)
        have HDT := Lib.hid (HD.out.1 (by omega))
        have HFJ := Lib.hid hFj
        clear hFj
        go_wp2
        go_returns
        rw [HDT.out, HFJ.out]
        exact ⟨rfl, HBr.out⟩
      have h1 : ((es j).id.toList == s.toList) = false := by simpa using h1
      have hq2 : Hid (firstFrom (fun i => (Sh.id (es i)).toList == s.toList) (ns - (j + 1)) (j + 1) = F) := (firstFrom_miss hlt h1).symm.trans hq.out
      go_wp2
      go_roundw
      case rel => exact ⟨j + 1, by omega, by go_num, hq2, HBX.out⟩
      case measure => simp [intOf]; omega
    · have HDT := Lib.hid (HD.out.2 (hq.out.symm.trans (firstFrom_end hj hlt)))
      go_wp2
      go_returns
      rw [HDT.out]
      exact ⟨rfl, HBr.out⟩

theorem head_Bar {w : World} {oa : Option Addr} {n c i : Nat} {e : Nat → Br} (h : BrAt w (.slice oa n c) n e) (hi : i ≤ n) :
    ∃ (o1 : Option Addr) (c1 : Nat), (∀ W, (Instr.slice 23 (.slice oa n c) none (some (.int .i64 i)) none).run Tryz.prog W = .ok (.slice o1 i c1) W) ∧ (o1 = none → i = 0) ∧ ∀ wx, Below w.heap.size w wx → ∀ ad, o1 = some ad → ∀ j u, (flatL Br.enc ((rowL e n).take i))[j]? = some u → wx.cell? (ad.add j) = some u := by
  obtain ⟨h0, h1⟩ := flat_ok_Bar h
  obtain ⟨oa', c', he, hc, hc2, hel⟩ := h.form
  cases he
  refine ⟨if c = 0 then oa else oa.map (·.add (0 * 5)), c, fun W => ?_, fun hn => ?_, fun wx hb ad had j u hj => ?_⟩
  · rw [run_slice_h W 23 oa n c Tryz.underlying23 .i64 (i : Int) (by omega) (by omega)]
    show Result.ok (sliced oa 0 (i : Int).toNat c 5) W = _
    simp [sliced]
  · split at hn
    · rename_i hz
      have := h0 hn
      omega
    · have := h0 (by simpa using hn)
      omega
  · split at had
    · exact h1 wx hb ad had j u (part_take Br.enc_len _ _ _ _ hj)
    · cases oa with
      | none => cases had
      | some a =>
        simp only [Option.map_some, Option.some.injEq] at had
        subst had
        have := h1 wx hb a rfl j u (part_take Br.enc_len _ _ _ _ hj)
        rwa [Nat.zero_mul, Addr.add_add, Nat.zero_add]
theorem tail_Bar {w : World} {oa : Option Addr} {n c i : Nat} {e : Nat → Br} (h : BrAt w (.slice oa n c) n e) (hi : i ≤ n) :
    ∃ (o1 : Option Addr) (c1 : Nat), (∀ W, (Instr.slice 23 (.slice oa n c) (some (.int .i64 i)) none none).run Tryz.prog W = .ok (.slice o1 (n - i) c1) W) ∧ (o1 = none → n - i = 0) ∧ ∀ wx, Below w.heap.size w wx → ∀ ad, o1 = some ad → ∀ j u, (flatL Br.enc ((rowL e n).drop i))[j]? = some u → wx.cell? (ad.add j) = some u := by
  obtain ⟨h0, h1⟩ := flat_ok_Bar h
  obtain ⟨oa', c', he, hc, hc2, hel⟩ := h.form
  cases he
  refine ⟨if c = i then oa else oa.map (·.add (i * 5)), c - i, fun W => ?_, fun hn => ?_, fun wx hb ad had j u hj => ?_⟩
  · rw [run_slice_l W 23 oa n c Tryz.underlying23 .i64 (i : Int) (by omega) (by omega)]
    show Result.ok (sliced oa (i : Int).toNat n c 5) W = _
    simp [sliced]
  · split at hn
    · rename_i hz
      have := h0 hn
      omega
    · have := h0 (by simpa using hn)
      omega
  · split at had
    · rename_i hz
      have hlen : (flatL Br.enc ((rowL e n).drop i)).length = 0 := by rw [flatL_len Br.enc_len, List.length_drop, rowL_len, show n - i = 0 by omega, Nat.zero_mul]
      rw [List.getElem?_eq_none (by omega)] at hj
      cases hj
    · cases oa with
      | none => cases had
      | some a =>
        simp only [Option.map_some, Option.some.injEq] at had
        subst had
        have := h1 wx hb a rfl (i * 5 + j) u (part_flat Br.enc_len _ _ _ _ hj)
        rwa [Addr.add_add]

set_option maxHeartbeats 4000000 in
theorem rat_Bar (v : Value) (ns : Nat) (es : Nat → Sh) (nb : Nat) (eb : Nat → Br) (s : ByteArray) (w : World) (h : StAt w v ns es nb eb) (ha : AscB Br.id eb nb) :
    Calls Tryz.prog 39 #[v, .string s] w fun e w' => e = .returned (.int .i64 (atE Br.id eb nb s)) ∧ Below w.heap.size w w' := by
  obtain ⟨va, vb, rfl, hSh, hBr⟩ := h
  have HSH := Lib.hid hSh
  have HBR := Lib.hid hBr
  obtain ⟨oa, ca, rfl, hna, hca, hela⟩ := hSh.form
  obtain ⟨ob, cb, rfl, hnb, hcb, helb⟩ := hBr.form
  have HELA := Lib.hid hela
  have HELB := Lib.hid helb
  clear HSH HBR hSh hBr hela helb
  obtain ⟨F, hF⟩ : ∃ F, atN Br.id eb nb s = F := ⟨_, rfl⟩
  obtain ⟨D, hD⟩ : ∃ D, atE Br.id eb nb s = D := ⟨_, rfl⟩
  have HF : Hid (firstFrom (fun i => (Br.id (eb i)).toList == s.toList) nb 0 = F) := hF
  have HD : Hid ((F < nb → D = F) ∧ (F = nb → D = -1)) := by
    show _ ∧ _
    rw [at_found ha] at hF
    unfold atE at hD
    split at hF
    · rename_i hf
      rw [if_pos hf] at hD
      refine ⟨fun _ => by omega, fun hq => ?_⟩
      obtain ⟨q, hq1, hq2⟩ := (found_iff ha).1 hf
      subst hq2
      rw [found_at ha hq1] at hF
      omega
    · rename_i hf
      rw [if_neg hf] at hD
      exact ⟨fun _ => by omega, fun _ => hD.symm⟩
  rw [hD]
  clear hF hD
  go_enter Tryz.func39, Tryz.ntmps39
  go_wp2
  go_loopw [5] (fun i wr => ∃ j : Nat, j ≤ nb ∧ i = .int .i64 j ∧ Hid (firstFrom (fun i => (Br.id (eb i)).toList == s.toList) (nb - j) j = F) ∧ Below (w.alloc (.cells #[.slice oa ns ca, .slice ob nb cb] 25)).heap.size (w.alloc (.cells #[.slice oa ns ca, .slice ob nb cb] 25)) wr) (fun i _ => nb - (intOf i).toNat)
  case atStart => exact ⟨0, by omega, rfl, HF.out, Below.refl _ _⟩
  case round =>
    obtain ⟨j, hj, rfl, hq, hB⟩ := hrel
    have HBr : Hid (Below w.heap.size w wr) := by
      show Below _ _ _
      exact below_step (w := w) (by go_grown) hB
    have HBX := Lib.hid hB
    have hs0 := hB.size
    (try simp only [World.size_alloc, World.size_setCell] at hs0)
    have z0 : w.heap.size < wr.heap.size := by omega
    have s0 : wr.cell? ⟨w.heap.size, 0, none⟩ = some (.slice oa ns ca) := (hB.cell (p := ⟨_, _, none⟩) (by simp <;> omega)).trans (by simp [go_sem])
    have s1 : wr.cell? ⟨w.heap.size, 1, none⟩ = some (.slice ob nb cb) := (hB.cell (p := ⟨_, _, none⟩) (by simp <;> omega)).trans (by simp [go_sem])
    clear hs0 hB
    by_cases hlt : j < nb
    · obtain ⟨b1, f1, rfl, hbl1, hcl1⟩ := HELB.out j hlt
      have c0 : wr.cell? ⟨b1, f1 + j * 5, none⟩ = some (.string (eb j).id) := (HBr.out.cell (p := ⟨_, _, none⟩) hbl1).trans (hcl1 j hlt).1
      have hbr : b1 < wr.heap.size := by omega
      clear hcl1
      by_cases h1 : ((eb j).id.toList == s.toList) = true
      · have hFj : F = j := hq.out.symm.trans (firstFrom_hit hlt h1)
        have HDT := Lib.hid (HD.out.1 (by omega))
        have HFJ := Lib.hid hFj
        clear hFj
        go_wp2
        go_returns
        rw [HDT.out, HFJ.out]
        exact ⟨rfl, HBr.out⟩
      have h1 : ((eb j).id.toList == s.toList) = false := by simpa using h1
      have hq2 : Hid (firstFrom (fun i => (Br.id (eb i)).toList == s.toList) (nb - (j + 1)) (j + 1) = F) := (firstFrom_miss hlt h1).symm.trans hq.out
      go_wp2
      go_roundw
      case rel => exact ⟨j + 1, by omega, by go_num, hq2, HBX.out⟩
      case measure => simp [intOf]; omega
    · have HDT := Lib.hid (HD.out.2 (hq.out.symm.trans (firstFrom_end hj hlt)))
      go_wp2
      go_returns
      rw [HDT.out]
      exact ⟨rfl, HBr.out⟩

set_option maxHeartbeats 4000000 in
theorem rcopied_any (v : Value) (ns : Nat) (es : Nat → Sh) (nb : Nat) (eb : Nat → Br) (w : World) (h : StAt w v ns es nb eb) (n1 : ns ≤ 1000000) (n2 : nb ≤ 1000000) :
    Calls Tryz.prog 34 #[v] w fun e w' => ∃ va vb, e = .returned (.agg #[va, vb]) ∧ ShAt w' va ns es ∧ BrAt w' vb nb eb ∧ NewFrom w.heap.size va ∧ NewFrom w.heap.size vb ∧ Below w.heap.size w w' := by
  obtain ⟨va, vb, rfl, hSh, hBr⟩ := h
  have HSH := Lib.hid hSh
  have HBR := Lib.hid hBr
  obtain ⟨oa, ca, rfl, hna, hca, hela⟩ := hSh.form
  obtain ⟨ob, cb, rfl, hnb, hcb, helb⟩ := hBr.form
  obtain ⟨iSheet, hiSheet, hz0Sheet, hz1Sheet, hz2Sheet⟩ := info_parts info_Sheet
  obtain ⟨iBar, hiBar, hz0Bar, hz1Bar, hz2Bar⟩ := info_parts info_Bar
  have HF1 := Lib.hid (flat_ok_Sheet hSh)
  have HF2 := Lib.hid (flat_ok_Bar hBr)
  clear hSh hBr hela helb
  go_enter Tryz.func34, Tryz.ntmps34
  go_wp2_with fail
  refine wp_region_own 8 [(0, 3), (4, 7)] (by kernel_rfl) (by kernel_rfl) (by kernel_rfl) (by kernel_rfl) (by kernel_rfl) ?_
  simp only [List.take_succ_cons, List.take_zero, fillL, Act.put, List.setIfInBounds_toArray, List.set_cons_zero, List.set_cons_succ]
  refine relo_new (OwnS.row ((w.alloc (.cells #[.slice oa ns ca, .slice ob nb cb] 25)).alloc (.cells #[.slice none 0 0, .slice none 0 0] 25)).heap.size 31 6 0 []) ?_ ?_
  · intro u wx hb hd
    have hz := hb.size
    (try simp only [World.size_alloc, World.size_setCell] at hz)
    have hz0 : w.heap.size < wx.heap.size := by omega
    have hz1 : w.heap.size + 1 < wx.heap.size := by omega
    obtain ⟨hc, hf⟩ := bcell hb
    have HBX := Lib.hid hb
    clear hb hz
    simp [depsO, Region.binds, updO, OwnS.is, OwnS.any, eaten, eats] at hd
    refine ⟨by simp [Region.wanted], ?_⟩
    go_simp
    exact ⟨(Below.refl _ _).alloc (Nat.le_refl _) _, ownsRow_built0 _ _ _ (by have := HBX.out.size; omega), fun b hb => by simp [OwnS.row, Value.ownBlock] at hb; omega⟩
  apply relo_is
  · intro u wx hb hd
    have hz := hb.size
    (try simp only [World.size_alloc, World.size_setCell] at hz)
    have hz0 : w.heap.size < wx.heap.size := by omega
    have hz1 : w.heap.size + 1 < wx.heap.size := by omega
    obtain ⟨hc, hf⟩ := bcell hb
    have HBX := Lib.hid hb
    clear hb hz
    simp [depsO, Region.binds, updO, OwnS.is, OwnS.any, eaten, eats] at hd
    go_simp
    first | exact ⟨Below.refl _ _, rfl⟩ | rfl
  apply relo_is
  · intro u wx hb hd
    have hz := hb.size
    (try simp only [World.size_alloc, World.size_setCell] at hz)
    have hz0 : w.heap.size < wx.heap.size := by omega
    have hz1 : w.heap.size + 1 < wx.heap.size := by omega
    obtain ⟨hc, hf⟩ := bcell hb
    have HBX := Lib.hid hb
    clear hb hz
    simp [depsO, Region.binds, updO, OwnS.is, OwnS.any, eaten, eats] at hd
    go_simp
    first | exact ⟨Below.refl _ _, rfl⟩ | rfl
  refine relo_append 0 (by decide) (by decide) (.tmp 3) (.tmp 5) 22 rfl rfl 31 iSheet _ 6 72 0 ns [] (flatL Sh.enc (rowL es ns)) Tryz.underlying22 hiSheet hz0Sheet hz1Sheet hz2Sheet rfl (by decide) (fun v w h => h) (fun v b h => h) (by decide) (by unfold maxLen; omega) (by omega) (by rw [flatL_len Sh.enc_len, rowL_len]) (flatL_one Sh.enc_one _) ?_ ?_
  · intro u wx hb hd
    have hz := hb.size
    (try simp only [World.size_alloc, World.size_setCell] at hz)
    have hz0 : w.heap.size < wx.heap.size := by omega
    have hz1 : w.heap.size + 1 < wx.heap.size := by omega
    obtain ⟨hc, hf⟩ := bcell hb
    have HBX := Lib.hid hb
    clear hb hz
    simp [depsO, Region.binds, updO, OwnS.is, OwnS.any, eaten, eats] at hd
    go_simp
    exact ⟨HF1.out.1, fun ad had j u hj => HF1.out.2 _ (below_step (w := w) (by go_grown) HBX.out) ad had j u hj⟩
  refine relo_new (OwnS.row ((w.alloc (.cells #[.slice oa ns ca, .slice ob nb cb] 25)).alloc (.cells #[.slice none 0 0, .slice none 0 0] 25)).heap.size 33 5 0 []) ?_ ?_
  · intro u wx hb hd
    have hz := hb.size
    (try simp only [World.size_alloc, World.size_setCell] at hz)
    have hz0 : w.heap.size < wx.heap.size := by omega
    have hz1 : w.heap.size + 1 < wx.heap.size := by omega
    obtain ⟨hc, hf⟩ := bcell hb
    have HBX := Lib.hid hb
    clear hb hz
    simp [depsO, Region.binds, updO, OwnS.is, OwnS.any, eaten, eats] at hd
    refine ⟨by simp [Region.wanted], ?_⟩
    go_simp
    exact ⟨(Below.refl _ _).alloc (Nat.le_refl _) _, ownsRow_built0 _ _ _ (by have := HBX.out.size; omega), fun b hb => by simp [OwnS.row, Value.ownBlock] at hb; omega⟩
  apply relo_is
  · intro u wx hb hd
    have hz := hb.size
    (try simp only [World.size_alloc, World.size_setCell] at hz)
    have hz0 : w.heap.size < wx.heap.size := by omega
    have hz1 : w.heap.size + 1 < wx.heap.size := by omega
    obtain ⟨hc, hf⟩ := bcell hb
    have HBX := Lib.hid hb
    clear hb hz
    simp [depsO, Region.binds, updO, OwnS.is, OwnS.any, eaten, eats] at hd
    go_simp
    first | exact ⟨Below.refl _ _, rfl⟩ | rfl
  apply relo_is
  · intro u wx hb hd
    have hz := hb.size
    (try simp only [World.size_alloc, World.size_setCell] at hz)
    have hz0 : w.heap.size < wx.heap.size := by omega
    have hz1 : w.heap.size + 1 < wx.heap.size := by omega
    obtain ⟨hc, hf⟩ := bcell hb
    have HBX := Lib.hid hb
    clear hb hz
    simp [depsO, Region.binds, updO, OwnS.is, OwnS.any, eaten, eats] at hd
    go_simp
    first | exact ⟨Below.refl _ _, rfl⟩ | rfl
  refine relo_append 4 (by decide) (by decide) (.tmp 7) (.tmp 9) 23 rfl rfl 33 iBar _ 5 72 0 nb [] (flatL Br.enc (rowL eb nb)) Tryz.underlying23 hiBar hz0Bar hz1Bar hz2Bar rfl (by decide) (fun v w h => h) (fun v b h => h) (by decide) (by unfold maxLen; omega) (by omega) (by rw [flatL_len Br.enc_len, rowL_len]) (flatL_one Br.enc_one _) ?_ ?_
  · intro u wx hb hd
    have hz := hb.size
    (try simp only [World.size_alloc, World.size_setCell] at hz)
    have hz0 : w.heap.size < wx.heap.size := by omega
    have hz1 : w.heap.size + 1 < wx.heap.size := by omega
    obtain ⟨hc, hf⟩ := bcell hb
    have HBX := Lib.hid hb
    clear hb hz
    simp [depsO, Region.binds, updO, OwnS.is, OwnS.any, eaten, eats] at hd
    go_simp
    exact ⟨HF2.out.1, fun ad had j u hj => HF2.out.2 _ (below_step (w := w) (by go_grown) HBX.out) ad had j u hj⟩
  intro u w6 hb hE
  have e1 : u 1 = _ := endO_get hE 1 (by decide) (by decide)
  have e2 : u 2 = _ := endO_get hE 2 (by decide) (by decide)
  have hO2 : w6.ownsRow _ _ _ (u 3) _ _ := endO_get hE 3 (by decide) (by decide)
  obtain ⟨v2, hv2⟩ : ∃ v2, u 3 = v2 := ⟨_, rfl⟩
  rw [hv2, List.nil_append, Nat.zero_add] at hO2
  simp only [World.size_alloc] at hO2
  have HO2 := Lib.hid hO2
  clear hO2
  have e5 : u 5 = _ := endO_get hE 5 (by decide) (by decide)
  have e6 : u 6 = _ := endO_get hE 6 (by decide) (by decide)
  have hO5 : w6.ownsRow _ _ _ (u 7) _ _ := endO_get hE 7 (by decide) (by decide)
  obtain ⟨v5, hv5⟩ : ∃ v5, u 7 = v5 := ⟨_, rfl⟩
  rw [hv5, List.nil_append, Nat.zero_add] at hO5
  simp only [World.size_alloc] at hO5
  have HO5 := Lib.hid hO5
  clear hO5
  simp only [List.drop_succ_cons, List.drop_zero, List.take_succ_cons, List.take_zero, fillL, Act.put, List.setIfInBounds_toArray, List.set_cons_zero, List.set_cons_succ, e1, e2, hv2, e5, e6, hv5]
  clear e1 e2 hv2 e5 e6 hv5 hE
  have HBw6 := Lib.hid (below_step (w := w) (by first | assumption | go_grown) hb)
  have HBXw6 := Lib.hid hb
  have hzw6 := hb.size
  (try simp only [World.size_alloc, World.size_setCell] at hzw6)
  have hzw60 : w.heap.size < w6.heap.size := by omega
  have hzw61 : w.heap.size + 1 < w6.heap.size := by omega
  obtain ⟨hcw6, hfw6⟩ := bcell hb
  clear hb hzw6
  have hs2 := owns_sh HO2.out
  obtain ⟨o2, c2, rfl, -, -, -⟩ := hs2.form
  have hs5 := owns_br HO5.out
  obtain ⟨o5, c5, rfl, -, -, -⟩ := hs5.form
  clear hs2 hs5
  go_wp2
  all_goals (refine bodyPost_ret (v := .agg #[.slice o2 ns c2, .slice o5 nb c5]) (by simp (maxDischargeDepth := 9) [results, Tryz.results34, go_sem, *]) rfl ?_)
  refine ⟨_, _, rfl, ?_, ?_, (owns_new HO2.out).mono (by omega), (owns_new HO5.out).mono (by omega), ?_⟩
  · exact owns_sh (owns_set (owns_set (HO2.out) _ _ _ (by omega)) _ _ _ (by omega))
  · exact owns_br (owns_set (owns_set (HO5.out) _ _ _ (by omega)) _ _ _ (by omega))
  · exact ((HBw6.out).setCell (show w.heap.size ≤ w.heap.size + 1 by omega) _).setCell (show w.heap.size ≤ w.heap.size + 1 by omega) _
end Go.Proofs.YtiddpaaihloopaaGreatDoor
