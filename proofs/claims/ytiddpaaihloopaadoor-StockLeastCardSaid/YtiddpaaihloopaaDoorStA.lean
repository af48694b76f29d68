/-
  A stock copied; AddSheet and AddBar, by walks. Conditions: an ascending stock of at most 10^6 elements, identifiers of at most 2^31 bytes. By an AI agent.
-/
import Derived.Test.YtiddpaaihloopaaDoorChkB
import Derived.Test.YtiddpaaihloopaaDoorTake
namespace Go.Proofs.YtiddpaaihloopaaDoor
open Go Go.ChangeShapes Go.WideShapes Go.RowKit Go.ChangeAt
set_option linter.unusedVariables false
set_option linter.unusedSimpArgs false
set_option maxRecDepth 100000
theorem slice_set {w : World} {v : Value} {n sz : Nat} {f : Nat → Nat → Value} {B : Nat} (h : SliceAt w v n sz f) (hn : NewFrom B v) (b i : Nat) (u : Value) (hb : b < B) : SliceAt (w.setCell ⟨b, i, none⟩ u) v n sz f := by
  obtain ⟨oa, cap, h1, h2, h3, h4⟩ := h
  refine ⟨oa, cap, h1, h2, h3, fun h0 => ?_⟩
  obtain ⟨b', off, e, hlt, hc⟩ := h4 h0
  refine ⟨b', off, e, by simpa using hlt, fun i j hi hj => ?_⟩
  have hb' : B ≤ b' := hn b' (by rw [h1, e]; rfl)
  rw [World.cell?_setCell_other _ _ _ _ (by intro he; have := congrArg Addr.block he; simp at this; omega)]
  exact hc i j hi hj
theorem sh_set {w : World} {v : Value} {n : Nat} {e : Nat → Sh} {B : Nat} (h : ShAt w v n e) (hn : NewFrom B v) (b i : Nat) (u : Value) (hb : b < B) : ShAt (w.setCell ⟨b, i, none⟩ u) v n e := slice_set h hn b i u hb
theorem br_set {w : World} {v : Value} {n : Nat} {e : Nat → Br} {B : Nat} (h : BrAt w v n e) (hn : NewFrom B v) (b i : Nat) (u : Value) (hb : b < B) : BrAt (w.setCell ⟨b, i, none⟩ u) v n e := slice_set h hn b i u hb
/-- the stock lies in memory not older than B -/
def StNew (B : Nat) (v : Value) : Prop := ∃ va vb, v = .agg #[va, vb] ∧ NewFrom B va ∧ NewFrom B vb
theorem st_set {w : World} {v : Value} {ns nb : Nat} {es : Nat → Sh} {eb : Nat → Br} {B : Nat} (h : StAt w v ns es nb eb) (hn : StNew B v) (b i : Nat) (u : Value) (hb : b < B) : StAt (w.setCell ⟨b, i, none⟩ u) v ns es nb eb := by
  obtain ⟨va, vb, rfl, h1, h2⟩ := h
  obtain ⟨va', vb', he, h3, h4⟩ := hn
  cases he
  exact ⟨_, _, rfl, sh_set h1 h3 b i u hb, br_set h2 h4 b i u hb⟩
def addS (a b : Int) : Int := if a ≠ 0 then a else b
def Stay.atSheet (B n : Nat) (e : Nat → Sh) : Stay := ⟨fun v w => ShAt w v n e ∧ NewFrom B v, fun v w w' hb h => ⟨h.1.below hb, h.2⟩⟩
def Stay.atBar (B n : Nat) (e : Nat → Br) : Stay := ⟨fun v w => BrAt w v n e ∧ NewFrom B v, fun v w w' hb h => ⟨h.1.below hb, h.2⟩⟩
def Stay.tup2Sheet (B n : Nat) (e : Nat → Sh) (E : Int) : Stay := ⟨fun v w => ∃ v', v = .tuple #[v', .int .i64 E] ∧ ShAt w v' n e ∧ NewFrom B v', fun v w w' hb ⟨v', h1, h2, h3⟩ => ⟨v', h1, h2.below hb, h3⟩⟩
def Stay.tup2Bar (B n : Nat) (e : Nat → Br) (E : Int) : Stay := ⟨fun v w => ∃ v', v = .tuple #[v', .int .i64 E] ∧ BrAt w v' n e ∧ NewFrom B v', fun v w w' hb ⟨v', h1, h2, h3⟩ => ⟨v', h1, h2.below hb, h3⟩⟩
theorem St_zero (w : World) (es : Nat → Sh) (eb : Nat → Br) : StAt w (.agg #[.slice none 0 0, .slice none 0 0]) 0 es 0 eb := ⟨_, _, rfl, nil_Sheet _ _, nil_Bar _ _⟩

theorem flat_ok_Sheet {w : World} {oa : Option Addr} {n c : Nat} {e : Nat → Sh} (h : ShAt w (.slice oa n c) n e) : (oa = none → n = 0) ∧ ∀ wx, Below w.heap.size w wx → ∀ ad, oa = some ad → ∀ j u, (flatL Sh.enc (rowL e n))[j]? = some u → wx.cell? (ad.add j) = some u := by
  obtain ⟨oa', c', he, -, -, hel⟩ := h.form
  cases he
  refine ⟨fun h0 => ?_, fun wx hb ad had j u hj => ?_⟩
  · rcases Nat.eq_zero_or_pos n with hz | hz
    · exact hz
    · obtain ⟨b, off, hq, _⟩ := hel 0 hz
      rw [h0] at hq; cases hq
  · have hnz : 0 < n := by
      rcases Nat.eq_zero_or_pos n with hz | hz
      · subst hz; simp [flatL, rowL] at hj
      · exact hz
    obtain ⟨b, off, hq, _⟩ := hel 0 hnz
    rw [had] at hq
    cases hq
    subst had
    rw [Addr.add_lit]
    exact (h.below hb).flat j u hj
theorem flat_ok_Bar {w : World} {oa : Option Addr} {n c : Nat} {e : Nat → Br} (h : BrAt w (.slice oa n c) n e) : (oa = none → n = 0) ∧ ∀ wx, Below w.heap.size w wx → ∀ ad, oa = some ad → ∀ j u, (flatL Br.enc (rowL e n))[j]? = some u → wx.cell? (ad.add j) = some u := by
  obtain ⟨oa', c', he, -, -, hel⟩ := h.form
  cases he
  refine ⟨fun h0 => ?_, fun wx hb ad had j u hj => ?_⟩
  · rcases Nat.eq_zero_or_pos n with hz | hz
    · exact hz
    · obtain ⟨b, off, hq, _⟩ := hel 0 hz
      rw [h0] at hq; cases hq
  · have hnz : 0 < n := by
      rcases Nat.eq_zero_or_pos n with hz | hz
      · subst hz; simp [flatL, rowL] at hj
      · exact hz
    obtain ⟨b, off, hq, _⟩ := hel 0 hnz
    rw [had] at hq
    cases hq
    subst had
    rw [Addr.add_lit]
    exact (h.below hb).flat j u hj
set_option maxHeartbeats 4000000 in
theorem copied_any (v : Value) (ns : Nat) (es : Nat → Sh) (nb : Nat) (eb : Nat → Br) (w : World) (h : StAt w v ns es nb eb) (n1 : ns ≤ 1000000) (n2 : nb ≤ 1000000) :
    Calls Tryd.prog 38 #[v] w fun e w' => ∃ va vb, e = .returned (.agg #[va, vb]) ∧ ShAt w' va ns es ∧ BrAt w' vb nb eb ∧ NewFrom w.heap.size va ∧ NewFrom w.heap.size vb ∧ Below w.heap.size w w' := by
  obtain ⟨va, vb, rfl, hSh, hBr⟩ := h
  have HSH := Lib.hid hSh
  have HBR := Lib.hid hBr
  obtain ⟨oa, ca, rfl, hna, hca, hela⟩ := hSh.form
  obtain ⟨ob, cb, rfl, hnb, hcb, helb⟩ := hBr.form
  have HF1 := Lib.hid (flat_ok_Sheet hSh)
  have HF2 := Lib.hid (flat_ok_Bar hBr)
  clear hSh hBr hela helb
  go_enter Tryd.func38, Tryd.ntmps38
  go_wp2_with fail
  refine wp_region_relw 6 (by kernel_rfl) (by kernel_rfl) (by kernel_rfl) ?_
  simp only [List.take_succ_cons, List.take_zero, fillL, Act.put, List.setIfInBounds_toArray, List.set_cons_zero, List.set_cons_succ]
  apply rel_is
  · intro u wx hb hd
    have hz := hb.size
    (try simp only [World.size_alloc, World.size_setCell] at hz)
    have hz0 : w.heap.size < wx.heap.size := by omega
    have hz1 : w.heap.size + 1 < wx.heap.size := by omega
    obtain ⟨hc, hf⟩ := bcell hb
    have HBX := Lib.hid hb
    clear hb hz
    simp [depsS, Region.binds, updS, Stay.is, Stay.any] at hd
    go_simp
    first | exact ⟨Below.refl _ _, rfl⟩ | rfl
  apply rel_is
  · intro u wx hb hd
    have hz := hb.size
    (try simp only [World.size_alloc, World.size_setCell] at hz)
    have hz0 : w.heap.size < wx.heap.size := by omega
    have hz1 : w.heap.size + 1 < wx.heap.size := by omega
    obtain ⟨hc, hf⟩ := bcell hb
    have HBX := Lib.hid hb
    clear hb hz
    simp [depsS, Region.binds, updS, Stay.is, Stay.any] at hd
    go_simp
    first | exact ⟨Below.refl _ _, rfl⟩ | rfl
  refine rel_new (Stay.owns (w.heap.size + 1 + 1) 38 6 ns (flatL Sh.enc (rowL es ns))) ?_ ?_
  · intro u wx hb hd
    have hz := hb.size
    (try simp only [World.size_alloc, World.size_setCell] at hz)
    have hz0 : w.heap.size < wx.heap.size := by omega
    have hz1 : w.heap.size + 1 < wx.heap.size := by omega
    obtain ⟨hc, hf⟩ := bcell hb
    have HBX := Lib.hid hb
    clear hb hz
    simp [depsS, Region.binds, updS, Stay.is, Stay.any] at hd
    refine ⟨by simp [Region.wanted], ?_⟩
    go_simp
    (go_at_call 56; refine (clone_Sheet oa ns ca (flatL Sh.enc (rowL es ns)) wx (by rw [flatL_len Sh.enc_len, rowL_len]) n1 HF1.out.1 (fun ad had j u hj => (HF1.out.2 _ (below_step (w := w) (by go_grown) HBX.out)) ad had j u hj) (flatL_one Sh.enc_one _)).mono ?_; rintro e' w1 ⟨v', rfl, ho, hb1⟩)
    exact ⟨_, rfl, hb1, owns_base ho (by have := HBX.out.size; simp at this; omega)⟩
  apply rel_is
  · intro u wx hb hd
    have hz := hb.size
    (try simp only [World.size_alloc, World.size_setCell] at hz)
    have hz0 : w.heap.size < wx.heap.size := by omega
    have hz1 : w.heap.size + 1 < wx.heap.size := by omega
    obtain ⟨hc, hf⟩ := bcell hb
    have HBX := Lib.hid hb
    clear hb hz
    simp [depsS, Region.binds, updS, Stay.is, Stay.any] at hd
    go_simp
    first | exact ⟨Below.refl _ _, rfl⟩ | rfl
  apply rel_is
  · intro u wx hb hd
    have hz := hb.size
    (try simp only [World.size_alloc, World.size_setCell] at hz)
    have hz0 : w.heap.size < wx.heap.size := by omega
    have hz1 : w.heap.size + 1 < wx.heap.size := by omega
    obtain ⟨hc, hf⟩ := bcell hb
    have HBX := Lib.hid hb
    clear hb hz
    simp [depsS, Region.binds, updS, Stay.is, Stay.any] at hd
    go_simp
    first | exact ⟨Below.refl _ _, rfl⟩ | rfl
  refine rel_new (Stay.owns (w.heap.size + 1 + 1) 40 5 nb (flatL Br.enc (rowL eb nb))) ?_ ?_
  · intro u wx hb hd
    have hz := hb.size
    (try simp only [World.size_alloc, World.size_setCell] at hz)
    have hz0 : w.heap.size < wx.heap.size := by omega
    have hz1 : w.heap.size + 1 < wx.heap.size := by omega
    obtain ⟨hc, hf⟩ := bcell hb
    have HBX := Lib.hid hb
    clear hb hz
    simp [depsS, Region.binds, updS, Stay.is, Stay.any] at hd
    refine ⟨by simp [Region.wanted], ?_⟩
    go_simp
    (go_at_call 57; refine (clone_Bar ob nb cb (flatL Br.enc (rowL eb nb)) wx (by rw [flatL_len Br.enc_len, rowL_len]) n2 HF2.out.1 (fun ad had j u hj => (HF2.out.2 _ (below_step (w := w) (by go_grown) HBX.out)) ad had j u hj) (flatL_one Br.enc_one _)).mono ?_; rintro e' w1 ⟨v', rfl, ho, hb1⟩)
    exact ⟨_, rfl, hb1, owns_base ho (by have := HBX.out.size; simp at this; omega)⟩
  intro u w6 hb hE
  have e0 : u 0 = _ := endS_get hE 0 (by decide)
  have e1 : u 1 = _ := endS_get hE 1 (by decide)
  have hO2 : w6.ownsRow _ _ _ (u 2) _ _ := endS_get hE 2 (by decide)
  obtain ⟨v2, hv2⟩ : ∃ v2, u 2 = v2 := ⟨_, rfl⟩
  rw [hv2] at hO2
  have HO2 := Lib.hid hO2
  clear hO2
  have e3 : u 3 = _ := endS_get hE 3 (by decide)
  have e4 : u 4 = _ := endS_get hE 4 (by decide)
  have hO5 : w6.ownsRow _ _ _ (u 5) _ _ := endS_get hE 5 (by decide)
  obtain ⟨v5, hv5⟩ : ∃ v5, u 5 = v5 := ⟨_, rfl⟩
  rw [hv5] at hO5
  have HO5 := Lib.hid hO5
  clear hO5
  simp only [List.drop_succ_cons, List.drop_zero, List.take_succ_cons, List.take_zero, fillL, Act.put, List.setIfInBounds_toArray, List.set_cons_zero, List.set_cons_succ, e0, e1, hv2, e3, e4, hv5]
  clear e0 e1 hv2 e3 e4 hv5 hE
  have HBw6 := Lib.hid (below_step (w := w) (by first | assumption | go_grown) hb)
  have HBXw6 := Lib.hid hb
  have hzw6 := hb.size
  (try simp only [World.size_alloc, World.size_setCell] at hzw6)
  have hzw60 : w.heap.size < w6.heap.size := by omega
  have hzw61 : w.heap.size + 1 < w6.heap.size := by omega
  obtain ⟨hcw6, hfw6⟩ := bcell hb
  clear hb hzw6
  have hs2 := owns_sh HO2.out
  obtain ⟨o2, c2, rfl, -, -, -⟩ := hs2.form
  have hs5 := owns_br HO5.out
  obtain ⟨o5, c5, rfl, -, -, -⟩ := hs5.form
  clear hs2 hs5
  go_wp2
  all_goals (refine bodyPost_ret (v := .agg #[.slice o2 ns c2, .slice o5 nb c5]) (by simp (maxDischargeDepth := 9) [results, Tryd.results38, go_sem, *]) rfl ?_)
  refine ⟨_, _, rfl, ?_, ?_, (owns_new HO2.out).mono (by omega), (owns_new HO5.out).mono (by omega), ?_⟩
  · exact owns_sh (owns_set (owns_set (HO2.out) _ _ _ (by omega)) _ _ _ (by omega))
  · exact owns_br (owns_set (owns_set (HO5.out) _ _ _ (by omega)) _ _ _ (by omega))
  · exact ((HBw6.out).setCell (show w.heap.size ≤ w.heap.size + 1 by omega) _).setCell (show w.heap.size ≤ w.heap.size + 1 by omega) _

set_option maxHeartbeats 4000000 in
theorem AddSheet_any (v : Value) (ns : Nat) (es : Nat → Sh) (nb : Nat) (eb : Nat → Br) (vm : Value) (m : Mat) (gv : Nat → Value) (x : Sh) (w : World) (h : StAt w v ns es nb eb) (hm : MatAt w vm m gv) (n1 : ns ≤ 1000000) (n2 : nb ≤ 1000000) (ha : AscB Sh.id es ns) (hi : x.id.size ≤ 2147483648) (hh : x.heat.size ≤ 2147483648) (hml : MaxLenIs w) :
    Calls Tryd.prog 16 #[v, vm, x.val] w fun e w' => ∃ v', e = .returned (.tuple #[v', .int .i64 (addS (sheetE m x) (addE Sh.id es ns x))]) ∧ StAt w' v' (if addS (sheetE m x) (addE Sh.id es ns x) = 0 then ns + 1 else 0) (insF es (placeI Sh.id es ns x.id) x) (if addS (sheetE m x) (addE Sh.id es ns x) = 0 then nb else 0) eb ∧ StNew w.heap.size v' ∧ Below w.heap.size w w' := by
  have HM := Lib.hid hm
  have HML := Lib.hid hml
  have HASC := Lib.hid ha
  have HST := Lib.hid h
  obtain ⟨va, vb, rfl, hSh, hBr⟩ := h
  have HSH := Lib.hid hSh
  have HBR := Lib.hid hBr
  obtain ⟨oa, ca, rfl, hna, hca, hela⟩ := hSh.form
  obtain ⟨ob, cb, rfl, hnb, hcb, helb⟩ := hBr.form
  obtain ⟨vg, vs, rfl, hG, hS, -⟩ := hm
  obtain ⟨om, cm, rfl, -, -⟩ := hG.form
  obtain ⟨ot, ct, rfl, -, -⟩ := hS.form
  have HI := Lib.hid hi
  have HH := Lib.hid hh
  obtain ⟨id', grade', thick', len', wid', heat'⟩ := x
  have hkind : ∀ W, Below w.heap.size w W → Calls Tryd.prog 28 #[.agg #[.string id', .string grade', .int .i64 thick', .int .i64 len', .int .i64 wid', .string heat'], .agg #[.slice om m.ng cm, .slice ot m.ns ct]] W fun e w' => e = .returned (.int .i64 (sheetE m (⟨id', grade', thick', len', wid', heat'⟩ : Sh))) ∧ Below W.heap.size W w' := fun W hB => sheet_any ⟨id', grade', thick', len', wid', heat'⟩ _ m gv W (HM.out.below hB) HI.out HH.out (HML.out.below hB)
  obtain ⟨EE, hEE⟩ : ∃ EE, sheetE m (⟨id', grade', thick', len', wid', heat'⟩ : Sh) = EE := ⟨_, rfl⟩
  obtain ⟨AE, hAE⟩ : ∃ AE, addE Sh.id es ns (⟨id', grade', thick', len', wid', heat'⟩ : Sh) = AE := ⟨_, rfl⟩
  have HAE := Lib.hid hAE
  rw [hEE] at hkind
  have HK := Lib.hid hkind
  rw [hEE, hAE]
  obtain ⟨RR, hRR⟩ : ∃ RR, addS EE AE = RR := ⟨_, rfl⟩
  have HRR := Lib.hid hRR
  obtain ⟨NS, hNS⟩ : ∃ NS, (if RR = 0 then ns + 1 else 0) = NS := ⟨_, rfl⟩
  obtain ⟨NB, hNB⟩ : ∃ NB, (if RR = 0 then nb else 0) = NB := ⟨_, rfl⟩
  obtain ⟨NN, hNN⟩ : ∃ NN, (if AE = 0 then ns + 1 else 0) = NN := ⟨_, rfl⟩
  have HNS := Lib.hid hNS
  have HNB := Lib.hid hNB
  have HNN := Lib.hid hNN
  rw [hRR, hNS, hNB]
  clear hSh hBr hG hS hml ha hi hh hela helb hkind hEE hAE hRR hNS hNB hNN
  show Calls Tryd.prog 16 #[.agg #[.slice oa ns ca, .slice ob nb cb], .agg #[.slice om m.ng cm, .slice ot m.ns ct], .agg #[.string id', .string grade', .int .i64 thick', .int .i64 len', .int .i64 wid', .string heat']] w _
  go_enter Tryd.func16, Tryd.ntmps16
  go_wp2_with fail
  (go_at_call 28; refine (HK.out _ (by go_grown)).mono ?_; rintro e w1 ⟨rfl, hb⟩)
  have HBw1 : Hid (Below w.heap.size w w1) := by
    show Below _ _ _
    exact below_step (w := w) (by go_grown) hb
  have hs1 := hb.size
  (try simp only [World.size_alloc, World.size_setCell] at hs1)
  have z0 : w.heap.size < w1.heap.size := by omega
  have z1 : w.heap.size + 1 < w1.heap.size := by omega
  have z2 : w.heap.size + 1 + 1 < w1.heap.size := by omega
  have z3 : w.heap.size + 1 + 1 + 1 < w1.heap.size := by omega
  have s0 : w1.cell? ⟨w.heap.size, 0, none⟩ = some (.slice oa ns ca) := (hb.cell (p := ⟨_, _, none⟩) (by simp <;> omega)).trans (by simp [go_sem])
  have s1 : w1.cell? ⟨w.heap.size, 1, none⟩ = some (.slice ob nb cb) := (hb.cell (p := ⟨_, _, none⟩) (by simp <;> omega)).trans (by simp [go_sem])
  have x0 : w1.cell? ⟨w.heap.size + 1 + 1, 0, none⟩ = some (.string id') := (hb.cell (p := ⟨_, _, none⟩) (by simp <;> omega)).trans (by simp [go_sem])
  have x1 : w1.cell? ⟨w.heap.size + 1 + 1, 1, none⟩ = some (.string grade') := (hb.cell (p := ⟨_, _, none⟩) (by simp <;> omega)).trans (by simp [go_sem])
  have x2 : w1.cell? ⟨w.heap.size + 1 + 1, 2, none⟩ = some (.int .i64 thick') := (hb.cell (p := ⟨_, _, none⟩) (by simp <;> omega)).trans (by simp [go_sem])
  have x3 : w1.cell? ⟨w.heap.size + 1 + 1, 3, none⟩ = some (.int .i64 len') := (hb.cell (p := ⟨_, _, none⟩) (by simp <;> omega)).trans (by simp [go_sem])
  have x4 : w1.cell? ⟨w.heap.size + 1 + 1, 4, none⟩ = some (.int .i64 wid') := (hb.cell (p := ⟨_, _, none⟩) (by simp <;> omega)).trans (by simp [go_sem])
  have x5 : w1.cell? ⟨w.heap.size + 1 + 1, 5, none⟩ = some (.string heat') := (hb.cell (p := ⟨_, _, none⟩) (by simp <;> omega)).trans (by simp [go_sem])
  have r0 : w1.cell? ⟨w.heap.size + 1 + 1 + 1, 0, none⟩ = some (.slice none 0 0) := (hb.cell (p := ⟨_, _, none⟩) (by simp <;> omega)).trans (by simp [go_sem])
  have rf0 : w1.frozen? ⟨w.heap.size + 1 + 1 + 1, 0, none⟩ = false := (hb.frozen (p := ⟨_, _, none⟩) (by simp <;> omega)).trans (by simp [go_sem])
  have r1 : w1.cell? ⟨w.heap.size + 1 + 1 + 1, 1, none⟩ = some (.slice none 0 0) := (hb.cell (p := ⟨_, _, none⟩) (by simp <;> omega)).trans (by simp [go_sem])
  have rf1 : w1.frozen? ⟨w.heap.size + 1 + 1 + 1, 1, none⟩ = false := (hb.frozen (p := ⟨_, _, none⟩) (by simp <;> omega)).trans (by simp [go_sem])
  clear hs1 hb
  by_cases hE0 : EE = 0
  · subst hE0
    go_wp2_with fail
    refine wp_region_relw 9 (by kernel_rfl) (by kernel_rfl) (by kernel_rfl) ?_
    simp only [List.take_succ_cons, List.take_zero, fillL, Act.put, List.setIfInBounds_toArray, List.set_cons_zero, List.set_cons_succ]
    apply rel_is
    · intro u wx hb hd
      have hz := hb.size
      (try simp only [World.size_alloc, World.size_setCell] at hz)
      have hz0 : w.heap.size < wx.heap.size := by omega
      have hz1 : w.heap.size + 1 < wx.heap.size := by omega
      have hz2 : w.heap.size + 1 + 1 < wx.heap.size := by omega
      have hz3 : w.heap.size + 1 + 1 + 1 < wx.heap.size := by omega
      obtain ⟨hc, hf⟩ := bcell hb
      have HBX := Lib.hid hb
      clear hb hz
      simp [depsS, Region.binds, updS, Stay.is, Stay.any] at hd
      go_simp
      first | exact ⟨Below.refl _ _, rfl⟩ | rfl
    apply rel_is
    · intro u wx hb hd
      have hz := hb.size
      (try simp only [World.size_alloc, World.size_setCell] at hz)
      have hz0 : w.heap.size < wx.heap.size := by omega
      have hz1 : w.heap.size + 1 < wx.heap.size := by omega
      have hz2 : w.heap.size + 1 + 1 < wx.heap.size := by omega
      have hz3 : w.heap.size + 1 + 1 + 1 < wx.heap.size := by omega
      obtain ⟨hc, hf⟩ := bcell hb
      have HBX := Lib.hid hb
      clear hb hz
      simp [depsS, Region.binds, updS, Stay.is, Stay.any] at hd
      go_simp
      first | rfl | (go_at_call 25; refine (shelf_Sheet _ _ oa ob ns ca nb cb wx rfl rfl).mono ?_; rintro e w1 ⟨rfl, hb1⟩; first | exact ⟨rfl, hb1⟩ | exact ⟨_, rfl, hb1, rfl⟩)
    apply rel_is
    · intro u wx hb hd
      have hz := hb.size
      (try simp only [World.size_alloc, World.size_setCell] at hz)
      have hz0 : w.heap.size < wx.heap.size := by omega
      have hz1 : w.heap.size + 1 < wx.heap.size := by omega
      have hz2 : w.heap.size + 1 + 1 < wx.heap.size := by omega
      have hz3 : w.heap.size + 1 + 1 + 1 < wx.heap.size := by omega
      obtain ⟨hc, hf⟩ := bcell hb
      have HBX := Lib.hid hb
      clear hb hz
      simp [depsS, Region.binds, updS, Stay.is, Stay.any] at hd
      go_simp
      first | exact ⟨Below.refl _ _, rfl⟩ | rfl
    refine rel_new (Stay.tup2Sheet w1.heap.size NN (insF es (placeI Sh.id es ns id') ⟨id', grade', thick', len', wid', heat'⟩) AE) ?_ ?_
    · intro u wx hb hd
      have hz := hb.size
      (try simp only [World.size_alloc, World.size_setCell] at hz)
      have hz0 : w.heap.size < wx.heap.size := by omega
      have hz1 : w.heap.size + 1 < wx.heap.size := by omega
      have hz2 : w.heap.size + 1 + 1 < wx.heap.size := by omega
      have hz3 : w.heap.size + 1 + 1 + 1 < wx.heap.size := by omega
      obtain ⟨hc, hf⟩ := bcell hb
      have HBX := Lib.hid hb
      clear hb hz
      simp [depsS, Region.binds, updS, Stay.is, Stay.any] at hd
      refine ⟨by simp [Region.wanted], ?_⟩
      go_simp
      (go_at_call 37; refine (add_Sheet _ ns es ⟨id', grade', thick', len', wid', heat'⟩ wx (HSH.out.below (below_step HBw1.out HBX.out)) HASC.out n1).mono ?_; rintro e' w2 ⟨v', rfl, hat, hnw, hb1⟩)
      rw [HAE.out] at hat ⊢
      rw [HNN.out] at hat
      exact ⟨_, rfl, hb1, v', rfl, hat, hnw.mono HBX.out.size⟩
    refine rel_new (Stay.tup2Sheet w1.heap.size NN (insF es (placeI Sh.id es ns id') ⟨id', grade', thick', len', wid', heat'⟩) AE) ?_ ?_
    · intro u wx hb hd
      have hz := hb.size
      (try simp only [World.size_alloc, World.size_setCell] at hz)
      have hz0 : w.heap.size < wx.heap.size := by omega
      have hz1 : w.heap.size + 1 < wx.heap.size := by omega
      have hz2 : w.heap.size + 1 + 1 < wx.heap.size := by omega
      have hz3 : w.heap.size + 1 + 1 + 1 < wx.heap.size := by omega
      obtain ⟨hc, hf⟩ := bcell hb
      have HBX := Lib.hid hb
      clear hb hz
      simp [depsS, Region.binds, updS, Stay.is, Stay.any] at hd
      refine ⟨by simp [Region.wanted], ?_⟩
      obtain ⟨v', e', hv⟩ := hd
      have HV := Lib.hid hv
      clear hv
      go_simp
      exact ⟨Below.refl _ _, v', rfl, HV.out⟩
    refine rel_new (Stay.atSheet w1.heap.size NN (insF es (placeI Sh.id es ns id') ⟨id', grade', thick', len', wid', heat'⟩)) ?_ ?_
    · intro u wx hb hd
      have hz := hb.size
      (try simp only [World.size_alloc, World.size_setCell] at hz)
      have hz0 : w.heap.size < wx.heap.size := by omega
      have hz1 : w.heap.size + 1 < wx.heap.size := by omega
      have hz2 : w.heap.size + 1 + 1 < wx.heap.size := by omega
      have hz3 : w.heap.size + 1 + 1 + 1 < wx.heap.size := by omega
      obtain ⟨hc, hf⟩ := bcell hb
      have HBX := Lib.hid hb
      clear hb hz
      simp [depsS, Region.binds, updS, Stay.is, Stay.any] at hd
      refine ⟨by simp [Region.wanted], ?_⟩
      first | (obtain ⟨⟨v', e', hv⟩, hd2⟩ := hd; have HV := Lib.hid hv; clear hv; go_simp; exact ⟨Below.refl _ _, HV.out⟩) | (obtain ⟨v', e', hv⟩ := hd; have HV := Lib.hid hv; clear hv; go_simp; exact ⟨Below.refl _ _, HV.out⟩)
    apply rel_is
    · intro u wx hb hd
      have hz := hb.size
      (try simp only [World.size_alloc, World.size_setCell] at hz)
      have hz0 : w.heap.size < wx.heap.size := by omega
      have hz1 : w.heap.size + 1 < wx.heap.size := by omega
      have hz2 : w.heap.size + 1 + 1 < wx.heap.size := by omega
      have hz3 : w.heap.size + 1 + 1 + 1 < wx.heap.size := by omega
      obtain ⟨hc, hf⟩ := bcell hb
      have HBX := Lib.hid hb
      clear hb hz
      simp [depsS, Region.binds, updS, Stay.is, Stay.any] at hd
      first | obtain ⟨v', e', hv⟩ := hd | obtain ⟨⟨v', e', hv⟩, hd2⟩ := hd
      have HV := Lib.hid hv
      clear hv
      go_simp
      first | exact ⟨Below.refl _ _, rfl⟩ | rfl
    refine rel_new (Stay.atSheet w1.heap.size NN (insF es (placeI Sh.id es ns id') ⟨id', grade', thick', len', wid', heat'⟩)) ?_ ?_
    · intro u wx hb hd
      have hz := hb.size
      (try simp only [World.size_alloc, World.size_setCell] at hz)
      have hz0 : w.heap.size < wx.heap.size := by omega
      have hz1 : w.heap.size + 1 < wx.heap.size := by omega
      have hz2 : w.heap.size + 1 + 1 < wx.heap.size := by omega
      have hz3 : w.heap.size + 1 + 1 + 1 < wx.heap.size := by omega
      obtain ⟨hc, hf⟩ := bcell hb
      have HBX := Lib.hid hb
      clear hb hz
      simp [depsS, Region.binds, updS, Stay.is, Stay.any] at hd
      refine ⟨by simp [Region.wanted], ?_⟩
      go_simp
      first | exact Below.refl _ _ | exact ⟨Below.refl _ _, hd⟩ | exact ⟨Below.refl _ _, hd.1⟩
    apply rel_is
    · intro u wx hb hd
      have hz := hb.size
      (try simp only [World.size_alloc, World.size_setCell] at hz)
      have hz0 : w.heap.size < wx.heap.size := by omega
      have hz1 : w.heap.size + 1 < wx.heap.size := by omega
      have hz2 : w.heap.size + 1 + 1 < wx.heap.size := by omega
      have hz3 : w.heap.size + 1 + 1 + 1 < wx.heap.size := by omega
      obtain ⟨hc, hf⟩ := bcell hb
      have HBX := Lib.hid hb
      clear hb hz
      simp [depsS, Region.binds, updS, Stay.is, Stay.any] at hd
      go_simp
      first | exact ⟨Below.refl _ _, rfl⟩ | rfl
    intro u w5 hb hE
    have e0 : u 0 = _ := endS_get hE 0 (by decide)
    have e1 : u 1 = _ := endS_get hE 1 (by decide)
    have e2 : u 2 = _ := endS_get hE 2 (by decide)
    obtain ⟨y3, hy3⟩ : ∃ y, u 3 = y := ⟨_, rfl⟩
    obtain ⟨y4, hy4⟩ : ∃ y, u 4 = y := ⟨_, rfl⟩
    obtain ⟨y5, hy5⟩ : ∃ y, u 5 = y := ⟨_, rfl⟩
    have e6 : u 6 = _ := endS_get hE 6 (by decide)
    have hA7 : ShAt w5 (u 7) NN (insF es (placeI Sh.id es ns id') ⟨id', grade', thick', len', wid', heat'⟩) ∧ NewFrom w1.heap.size (u 7) := endS_get hE 7 (by decide)
    obtain ⟨l7, hl7⟩ : ∃ l7, u 7 = l7 := ⟨_, rfl⟩
    rw [hl7] at hA7
    have HA7 := Lib.hid hA7
    clear hA7
    have e8 : u 8 = _ := endS_get hE 8 (by decide)
    simp only [List.drop_succ_cons, List.drop_zero, List.take_succ_cons, List.take_zero, fillL, Act.put, List.setIfInBounds_toArray, List.set_cons_zero, List.set_cons_succ, e0, e1, e2, hy3, hy4, hy5, e6, hl7, e8]
    clear e0 e1 e2 hy3 hy4 hy5 e6 hl7 e8 hE
    have HBw5 := Lib.hid (below_step (w := w1) (by first | assumption | go_grown) hb)
    have HBXw5 := Lib.hid hb
    have hzw5 := hb.size
    (try simp only [World.size_alloc, World.size_setCell] at hzw5)
    have hzw50 : w.heap.size < w5.heap.size := by omega
    have hzw51 : w.heap.size + 1 < w5.heap.size := by omega
    have hzw52 : w.heap.size + 1 + 1 < w5.heap.size := by omega
    have hzw53 : w.heap.size + 1 + 1 + 1 < w5.heap.size := by omega
    obtain ⟨hcw5, hfw5⟩ := bcell hb
    clear hb hzw5
    have HW5 : Hid (Below w.heap.size w w5) := below_step HBw1.out HBw5.out
    have HN7 := Lib.hid HA7.out.2
    obtain ⟨o7, c7, rfl, -, -, -⟩ := HA7.out.1.form
    by_cases hA0 : AE = 0
    · subst hA0
      have HZ : Hid (RR = 0 ∧ NS = ns + 1 ∧ NB = nb ∧ NN = ns + 1) := by
        have h1 : RR = 0 := by rw [← HRR.out]; rfl
        exact ⟨h1, by rw [← HNS.out, if_pos h1], by rw [← HNB.out, if_pos h1], by rw [← HNN.out, if_pos rfl]⟩
      go_wp2_with fail
      (go_at_call 38; refine (copied_any _ ns es nb eb _ (HST.out.below HW5.out) n1 n2).mono ?_; rintro e w6 ⟨va', vb', rfl, h1, h2, h3, h4, hb⟩)
      have H1 := Lib.hid h1
      have H2 := Lib.hid h2
      have H3 := Lib.hid (h3.mono (Nat.le_trans (Nat.le_of_lt hzw53) (Nat.le_refl _) : w.heap.size + 1 + 1 + 1 ≤ w5.heap.size))
      have H4 := Lib.hid (h4.mono (Nat.le_trans (Nat.le_of_lt hzw53) (Nat.le_refl _) : w.heap.size + 1 + 1 + 1 ≤ w5.heap.size))
      have H3' := Lib.hid h3
      have H4' := Lib.hid h4
      obtain ⟨o1, c1, rfl, -, -, -⟩ := h1.form
      obtain ⟨o2, c2, rfl, -, -, -⟩ := h2.form
      have HB6 : Hid (Below w5.heap.size w5 w6) := hb
      have hs6 := hb.size
      have y3 : w.heap.size + 1 + 1 + 1 < w6.heap.size := by omega
      have q0 : w6.cell? ⟨w.heap.size + 1 + 1 + 1, 0, none⟩ = some (.slice none 0 0) := (HB6.out.cell (p := ⟨_, _, none⟩) hzw53).trans ((HBXw5.out.cell (p := ⟨_, _, none⟩) z3).trans r0)
      have q1 : w6.cell? ⟨w.heap.size + 1 + 1 + 1, 1, none⟩ = some (.slice none 0 0) := (HB6.out.cell (p := ⟨_, _, none⟩) hzw53).trans ((HBXw5.out.cell (p := ⟨_, _, none⟩) z3).trans r1)
      have qf0 : w6.frozen? ⟨w.heap.size + 1 + 1 + 1, 0, none⟩ = false := (HB6.out.frozen (p := ⟨_, _, none⟩) hzw53).trans ((HBXw5.out.frozen (p := ⟨_, _, none⟩) z3).trans rf0)
      have qf1 : w6.frozen? ⟨w.heap.size + 1 + 1 + 1, 1, none⟩ = false := (HB6.out.frozen (p := ⟨_, _, none⟩) hzw53).trans ((HBXw5.out.frozen (p := ⟨_, _, none⟩) z3).trans rf1)
      clear hb h1 h2 h3 h4 hs6 hcw5 hfw5
      have g0 : ((w6.setCell ⟨w.heap.size + 1 + 1 + 1, 0, none⟩ (.slice o1 ns c1)).setCell ⟨w.heap.size + 1 + 1 + 1, 1, none⟩ (.slice o2 nb c2)).cell? ⟨w.heap.size + 1 + 1 + 1, 0, none⟩ = some (.slice o1 ns c1) := by simp (maxDischargeDepth := 9) [go_sem, q0, q1]
      have g1 : ((w6.setCell ⟨w.heap.size + 1 + 1 + 1, 0, none⟩ (.slice o1 ns c1)).setCell ⟨w.heap.size + 1 + 1 + 1, 1, none⟩ (.slice o2 nb c2)).cell? ⟨w.heap.size + 1 + 1 + 1, 1, none⟩ = some (.slice o2 nb c2) := by simp (maxDischargeDepth := 9) [go_sem, q0, q1]
      go_wp2
      all_goals (refine bodyPost_ret (v := .tuple #[.agg #[.slice o7 NN c7, .slice o2 nb c2], .int .i64 0]) (by simp (maxDischargeDepth := 9) [results, Tryd.results16, go_sem, *]) rfl ?_)
      have HM7 := Lib.hid (HN7.out.mono (by omega : w.heap.size + 1 + 1 + 1 + 1 ≤ w1.heap.size))
      have HM1 := Lib.hid (H3'.out.mono (by omega : w.heap.size + 1 + 1 + 1 + 1 ≤ w5.heap.size))
      have HM2 := Lib.hid (H4'.out.mono (by omega : w.heap.size + 1 + 1 + 1 + 1 ≤ w5.heap.size))
      have HA6 := Lib.hid (HA7.out.1.below HB6.out)
      rw [HZ.out.1, HZ.out.2.1, HZ.out.2.2.1]
      rw [HZ.out.2.2.2] at HA6 HM7 ⊢
      refine ⟨_, rfl, ⟨_, _, rfl, ?_, ?_⟩, ⟨_, _, rfl, ?_, ?_⟩, ?_⟩
      · exact sh_set (sh_set (sh_set (sh_set (sh_set (HA6.out) HM7.out _ _ _ (by omega)) HM7.out _ _ _ (by omega)) HM7.out _ _ _ (by omega)) HM7.out _ _ _ (by omega)) HM7.out _ _ _ (by omega)
      · exact br_set (br_set (br_set (br_set (br_set (H2.out) HM2.out _ _ _ (by omega)) HM2.out _ _ _ (by omega)) HM2.out _ _ _ (by omega)) HM2.out _ _ _ (by omega)) HM2.out _ _ _ (by omega)
      · exact HM7.out.mono (by omega)
      · exact HM2.out.mono (by omega)
      · exact (((((below_step HW5.out HB6.out).setCell (show w.heap.size ≤ w.heap.size + 1 + 1 + 1 by omega) _).setCell (show w.heap.size ≤ w.heap.size + 1 + 1 + 1 by omega) _).setCell (show w.heap.size ≤ w.heap.size + 1 + 1 + 1 by omega) _).setCell (show w.heap.size ≤ w.heap.size + 1 + 1 + 1 by omega) _).setCell (show w.heap.size ≤ w.heap.size + 1 + 1 + 1 by omega) _
    · have HZ : Hid (RR = AE ∧ NS = 0 ∧ NB = 0) := by
        have h1 : RR = AE := by rw [← HRR.out]; rfl
        exact ⟨h1, by rw [← HNS.out, if_neg (by rw [h1]; exact hA0)], by rw [← HNB.out, if_neg (by rw [h1]; exact hA0)]⟩
      have k0 : (AE != 0) = true := by simpa using hA0
      clear hA0
      go_wp2
      all_goals (refine bodyPost_ret (v := .tuple #[.agg #[.slice none 0 0, .slice none 0 0], .int .i64 AE]) (by simp (maxDischargeDepth := 9) [results, Tryd.results16, go_sem, *]) rfl ?_)
      rw [HZ.out.1, HZ.out.2.1, HZ.out.2.2]
      exact ⟨_, rfl, St_zero _ _ _, ⟨_, _, rfl, newFrom_nil _, newFrom_nil _⟩, ((HW5.out).setCell (show w.heap.size ≤ w.heap.size + 1 + 1 + 1 by omega) _).setCell (show w.heap.size ≤ w.heap.size + 1 + 1 + 1 by omega) _⟩
  · have HZ : Hid (RR = EE ∧ NS = 0 ∧ NB = 0) := by
      have h1 : RR = EE := by rw [← HRR.out]; exact if_pos hE0
      exact ⟨h1, by rw [← HNS.out, if_neg (by rw [h1]; exact hE0)], by rw [← HNB.out, if_neg (by rw [h1]; exact hE0)]⟩
    have k0 : (EE != 0) = true := by simpa using hE0
    clear hE0
    go_wp2
    all_goals (refine bodyPost_ret (v := .tuple #[.agg #[.slice none 0 0, .slice none 0 0], .int .i64 EE]) (by simp (maxDischargeDepth := 9) [results, Tryd.results16, go_sem, *]) rfl ?_)
    rw [HZ.out.1, HZ.out.2.1, HZ.out.2.2]
    exact ⟨_, rfl, St_zero _ _ _, ⟨_, _, rfl, newFrom_nil _, newFrom_nil _⟩, ((HBw1.out).setCell (show w.heap.size ≤ w.heap.size + 1 + 1 + 1 by omega) _).setCell (show w.heap.size ≤ w.heap.size + 1 + 1 + 1 by omega) _⟩

set_option maxHeartbeats 4000000 in
theorem AddBar_any (v : Value) (ns : Nat) (es : Nat → Sh) (nb : Nat) (eb : Nat → Br) (vm : Value) (m : Mat) (gv : Nat → Value) (x : Br) (w : World) (h : StAt w v ns es nb eb) (hm : MatAt w vm m gv) (n1 : ns ≤ 1000000) (n2 : nb ≤ 1000000) (ha : AscB Br.id eb nb) (hi : x.id.size ≤ 2147483648) (hh : x.heat.size ≤ 2147483648) (hml : MaxLenIs w) :
    Calls Tryd.prog 18 #[v, vm, x.val] w fun e w' => ∃ v', e = .returned (.tuple #[v', .int .i64 (addS (barE m x) (addE Br.id eb nb x))]) ∧ StAt w' v' (if addS (barE m x) (addE Br.id eb nb x) = 0 then ns else 0) es (if addS (barE m x) (addE Br.id eb nb x) = 0 then nb + 1 else 0) (insF eb (placeI Br.id eb nb x.id) x) ∧ StNew w.heap.size v' ∧ Below w.heap.size w w' := by
  have HM := Lib.hid hm
  have HML := Lib.hid hml
  have HASC := Lib.hid ha
  have HST := Lib.hid h
  obtain ⟨va, vb, rfl, hSh, hBr⟩ := h
  have HSH := Lib.hid hSh
  have HBR := Lib.hid hBr
  obtain ⟨oa, ca, rfl, hna, hca, hela⟩ := hSh.form
  obtain ⟨ob, cb, rfl, hnb, hcb, helb⟩ := hBr.form
  obtain ⟨vg, vs, rfl, hG, hS, -⟩ := hm
  obtain ⟨om, cm, rfl, -, -⟩ := hG.form
  obtain ⟨ot, ct, rfl, -, -⟩ := hS.form
  have HI := Lib.hid hi
  have HH := Lib.hid hh
  obtain ⟨id', sect', grade', len', heat'⟩ := x
  have hkind : ∀ W, Below w.heap.size w W → Calls Tryd.prog 32 #[.agg #[.string id', .string sect', .string grade', .int .i64 len', .string heat'], .agg #[.slice om m.ng cm, .slice ot m.ns ct]] W fun e w' => e = .returned (.int .i64 (barE m (⟨id', sect', grade', len', heat'⟩ : Br))) ∧ Below W.heap.size W w' := fun W hB => bar_any ⟨id', sect', grade', len', heat'⟩ _ m gv W (HM.out.below hB) HI.out HH.out (HML.out.below hB)
  obtain ⟨EE, hEE⟩ : ∃ EE, barE m (⟨id', sect', grade', len', heat'⟩ : Br) = EE := ⟨_, rfl⟩
  obtain ⟨AE, hAE⟩ : ∃ AE, addE Br.id eb nb (⟨id', sect', grade', len', heat'⟩ : Br) = AE := ⟨_, rfl⟩
  have HAE := Lib.hid hAE
  rw [hEE] at hkind
  have HK := Lib.hid hkind
  rw [hEE, hAE]
  obtain ⟨RR, hRR⟩ : ∃ RR, addS EE AE = RR := ⟨_, rfl⟩
  have HRR := Lib.hid hRR
  obtain ⟨NS, hNS⟩ : ∃ NS, (if RR = 0 then ns else 0) = NS := ⟨_, rfl⟩
  obtain ⟨NB, hNB⟩ : ∃ NB, (if RR = 0 then nb + 1 else 0) = NB := ⟨_, rfl⟩
  obtain ⟨NN, hNN⟩ : ∃ NN, (if AE = 0 then nb + 1 else 0) = NN := ⟨_, rfl⟩
  have HNS := Lib.hid hNS
  have HNB := Lib.hid hNB
  have HNN := Lib.hid hNN
  rw [hRR, hNS, hNB]
  clear hSh hBr hG hS hml ha hi hh hela helb hkind hEE hAE hRR hNS hNB hNN
  show Calls Tryd.prog 18 #[.agg #[.slice oa ns ca, .slice ob nb cb], .agg #[.slice om m.ng cm, .slice ot m.ns ct], .agg #[.string id', .string sect', .string grade', .int .i64 len', .string heat']] w _
  go_enter Tryd.func18, Tryd.ntmps18
  go_wp2_with fail
  (go_at_call 32; refine (HK.out _ (by go_grown)).mono ?_; rintro e w1 ⟨rfl, hb⟩)
  have HBw1 : Hid (Below w.heap.size w w1) := by
    show Below _ _ _
    exact below_step (w := w) (by go_grown) hb
  have hs1 := hb.size
  (try simp only [World.size_alloc, World.size_setCell] at hs1)
  have z0 : w.heap.size < w1.heap.size := by omega
  have z1 : w.heap.size + 1 < w1.heap.size := by omega
  have z2 : w.heap.size + 1 + 1 < w1.heap.size := by omega
  have z3 : w.heap.size + 1 + 1 + 1 < w1.heap.size := by omega
  have s0 : w1.cell? ⟨w.heap.size, 0, none⟩ = some (.slice oa ns ca) := (hb.cell (p := ⟨_, _, none⟩) (by simp <;> omega)).trans (by simp [go_sem])
  have s1 : w1.cell? ⟨w.heap.size, 1, none⟩ = some (.slice ob nb cb) := (hb.cell (p := ⟨_, _, none⟩) (by simp <;> omega)).trans (by simp [go_sem])
  have x0 : w1.cell? ⟨w.heap.size + 1 + 1, 0, none⟩ = some (.string id') := (hb.cell (p := ⟨_, _, none⟩) (by simp <;> omega)).trans (by simp [go_sem])
  have x1 : w1.cell? ⟨w.heap.size + 1 + 1, 1, none⟩ = some (.string sect') := (hb.cell (p := ⟨_, _, none⟩) (by simp <;> omega)).trans (by simp [go_sem])
  have x2 : w1.cell? ⟨w.heap.size + 1 + 1, 2, none⟩ = some (.string grade') := (hb.cell (p := ⟨_, _, none⟩) (by simp <;> omega)).trans (by simp [go_sem])
  have x3 : w1.cell? ⟨w.heap.size + 1 + 1, 3, none⟩ = some (.int .i64 len') := (hb.cell (p := ⟨_, _, none⟩) (by simp <;> omega)).trans (by simp [go_sem])
  have x4 : w1.cell? ⟨w.heap.size + 1 + 1, 4, none⟩ = some (.string heat') := (hb.cell (p := ⟨_, _, none⟩) (by simp <;> omega)).trans (by simp [go_sem])
  have r0 : w1.cell? ⟨w.heap.size + 1 + 1 + 1, 0, none⟩ = some (.slice none 0 0) := (hb.cell (p := ⟨_, _, none⟩) (by simp <;> omega)).trans (by simp [go_sem])
  have rf0 : w1.frozen? ⟨w.heap.size + 1 + 1 + 1, 0, none⟩ = false := (hb.frozen (p := ⟨_, _, none⟩) (by simp <;> omega)).trans (by simp [go_sem])
  have r1 : w1.cell? ⟨w.heap.size + 1 + 1 + 1, 1, none⟩ = some (.slice none 0 0) := (hb.cell (p := ⟨_, _, none⟩) (by simp <;> omega)).trans (by simp [go_sem])
  have rf1 : w1.frozen? ⟨w.heap.size + 1 + 1 + 1, 1, none⟩ = false := (hb.frozen (p := ⟨_, _, none⟩) (by simp <;> omega)).trans (by simp [go_sem])
  clear hs1 hb
  by_cases hE0 : EE = 0
  · subst hE0
    go_wp2_with fail
    refine wp_region_relw 9 (by kernel_rfl) (by kernel_rfl) (by kernel_rfl) ?_
    simp only [List.take_succ_cons, List.take_zero, fillL, Act.put, List.setIfInBounds_toArray, List.set_cons_zero, List.set_cons_succ]
    apply rel_is
    · intro u wx hb hd
      have hz := hb.size
      (try simp only [World.size_alloc, World.size_setCell] at hz)
      have hz0 : w.heap.size < wx.heap.size := by omega
      have hz1 : w.heap.size + 1 < wx.heap.size := by omega
      have hz2 : w.heap.size + 1 + 1 < wx.heap.size := by omega
      have hz3 : w.heap.size + 1 + 1 + 1 < wx.heap.size := by omega
      obtain ⟨hc, hf⟩ := bcell hb
      have HBX := Lib.hid hb
      clear hb hz
      simp [depsS, Region.binds, updS, Stay.is, Stay.any] at hd
      go_simp
      first | exact ⟨Below.refl _ _, rfl⟩ | rfl
    apply rel_is
    · intro u wx hb hd
      have hz := hb.size
      (try simp only [World.size_alloc, World.size_setCell] at hz)
      have hz0 : w.heap.size < wx.heap.size := by omega
      have hz1 : w.heap.size + 1 < wx.heap.size := by omega
      have hz2 : w.heap.size + 1 + 1 < wx.heap.size := by omega
      have hz3 : w.heap.size + 1 + 1 + 1 < wx.heap.size := by omega
      obtain ⟨hc, hf⟩ := bcell hb
      have HBX := Lib.hid hb
      clear hb hz
      simp [depsS, Region.binds, updS, Stay.is, Stay.any] at hd
      go_simp
      first | rfl | (go_at_call 29; refine (shelf_Bar _ _ oa ob ns ca nb cb wx rfl rfl).mono ?_; rintro e w1 ⟨rfl, hb1⟩; first | exact ⟨rfl, hb1⟩ | exact ⟨_, rfl, hb1, rfl⟩)
    apply rel_is
    · intro u wx hb hd
      have hz := hb.size
      (try simp only [World.size_alloc, World.size_setCell] at hz)
      have hz0 : w.heap.size < wx.heap.size := by omega
      have hz1 : w.heap.size + 1 < wx.heap.size := by omega
      have hz2 : w.heap.size + 1 + 1 < wx.heap.size := by omega
      have hz3 : w.heap.size + 1 + 1 + 1 < wx.heap.size := by omega
      obtain ⟨hc, hf⟩ := bcell hb
      have HBX := Lib.hid hb
      clear hb hz
      simp [depsS, Region.binds, updS, Stay.is, Stay.any] at hd
      go_simp
      first | exact ⟨Below.refl _ _, rfl⟩ | rfl
    refine rel_new (Stay.tup2Bar w1.heap.size NN (insF eb (placeI Br.id eb nb id') ⟨id', sect', grade', len', heat'⟩) AE) ?_ ?_
    · intro u wx hb hd
      have hz := hb.size
      (try simp only [World.size_alloc, World.size_setCell] at hz)
      have hz0 : w.heap.size < wx.heap.size := by omega
      have hz1 : w.heap.size + 1 < wx.heap.size := by omega
      have hz2 : w.heap.size + 1 + 1 < wx.heap.size := by omega
      have hz3 : w.heap.size + 1 + 1 + 1 < wx.heap.size := by omega
      obtain ⟨hc, hf⟩ := bcell hb
      have HBX := Lib.hid hb
      clear hb hz
      simp [depsS, Region.binds, updS, Stay.is, Stay.any] at hd
      refine ⟨by simp [Region.wanted], ?_⟩
      go_simp
      (go_at_call 40; refine (add_Bar _ nb eb ⟨id', sect', grade', len', heat'⟩ wx (HBR.out.below (below_step HBw1.out HBX.out)) HASC.out n2).mono ?_; rintro e' w2 ⟨v', rfl, hat, hnw, hb1⟩)
      rw [HAE.out] at hat ⊢
      rw [HNN.out] at hat
      exact ⟨_, rfl, hb1, v', rfl, hat, hnw.mono HBX.out.size⟩
    refine rel_new (Stay.tup2Bar w1.heap.size NN (insF eb (placeI Br.id eb nb id') ⟨id', sect', grade', len', heat'⟩) AE) ?_ ?_
    · intro u wx hb hd
      have hz := hb.size
      (try simp only [World.size_alloc, World.size_setCell] at hz)
      have hz0 : w.heap.size < wx.heap.size := by omega
      have hz1 : w.heap.size + 1 < wx.heap.size := by omega
      have hz2 : w.heap.size + 1 + 1 < wx.heap.size := by omega
      have hz3 : w.heap.size + 1 + 1 + 1 < wx.heap.size := by omega
      obtain ⟨hc, hf⟩ := bcell hb
      have HBX := Lib.hid hb
      clear hb hz
      simp [depsS, Region.binds, updS, Stay.is, Stay.any] at hd
      refine ⟨by simp [Region.wanted], ?_⟩
      obtain ⟨v', e', hv⟩ := hd
      have HV := Lib.hid hv
      clear hv
      go_simp
      exact ⟨Below.refl _ _, v', rfl, HV.out⟩
    refine rel_new (Stay.atBar w1.heap.size NN (insF eb (placeI Br.id eb nb id') ⟨id', sect', grade', len', heat'⟩)) ?_ ?_
    · intro u wx hb hd
      have hz := hb.size
      (try simp only [World.size_alloc, World.size_setCell] at hz)
      have hz0 : w.heap.size < wx.heap.size := by omega
      have hz1 : w.heap.size + 1 < wx.heap.size := by omega
      have hz2 : w.heap.size + 1 + 1 < wx.heap.size := by omega
      have hz3 : w.heap.size + 1 + 1 + 1 < wx.heap.size := by omega
      obtain ⟨hc, hf⟩ := bcell hb
      have HBX := Lib.hid hb
      clear hb hz
      simp [depsS, Region.binds, updS, Stay.is, Stay.any] at hd
      refine ⟨by simp [Region.wanted], ?_⟩
      first | (obtain ⟨⟨v', e', hv⟩, hd2⟩ := hd; have HV := Lib.hid hv; clear hv; go_simp; exact ⟨Below.refl _ _, HV.out⟩) | (obtain ⟨v', e', hv⟩ := hd; have HV := Lib.hid hv; clear hv; go_simp; exact ⟨Below.refl _ _, HV.out⟩)
    apply rel_is
    · intro u wx hb hd
      have hz := hb.size
      (try simp only [World.size_alloc, World.size_setCell] at hz)
      have hz0 : w.heap.size < wx.heap.size := by omega
      have hz1 : w.heap.size + 1 < wx.heap.size := by omega
      have hz2 : w.heap.size + 1 + 1 < wx.heap.size := by omega
      have hz3 : w.heap.size + 1 + 1 + 1 < wx.heap.size := by omega
      obtain ⟨hc, hf⟩ := bcell hb
      have HBX := Lib.hid hb
      clear hb hz
      simp [depsS, Region.binds, updS, Stay.is, Stay.any] at hd
      first | obtain ⟨v', e', hv⟩ := hd | obtain ⟨⟨v', e', hv⟩, hd2⟩ := hd
      have HV := Lib.hid hv
      clear hv
      go_simp
      first | exact ⟨Below.refl _ _, rfl⟩ | rfl
    refine rel_new (Stay.atBar w1.heap.size NN (insF eb (placeI Br.id eb nb id') ⟨id', sect', grade', len', heat'⟩)) ?_ ?_
    · intro u wx hb hd
      have hz := hb.size
      (try simp only [World.size_alloc, World.size_setCell] at hz)
      have hz0 : w.heap.size < wx.heap.size := by omega
      have hz1 : w.heap.size + 1 < wx.heap.size := by omega
      have hz2 : w.heap.size + 1 + 1 < wx.heap.size := by omega
      have hz3 : w.heap.size + 1 + 1 + 1 < wx.heap.size := by omega
      obtain ⟨hc, hf⟩ := bcell hb
      have HBX := Lib.hid hb
      clear hb hz
      simp [depsS, Region.binds, updS, Stay.is, Stay.any] at hd
      refine ⟨by simp [Region.wanted], ?_⟩
      go_simp
      first | exact Below.refl _ _ | exact ⟨Below.refl _ _, hd⟩ | exact ⟨Below.refl _ _, hd.1⟩
    apply rel_is
    · intro u wx hb hd
      have hz := hb.size
      (try simp only [World.size_alloc, World.size_setCell] at hz)
      have hz0 : w.heap.size < wx.heap.size := by omega
      have hz1 : w.heap.size + 1 < wx.heap.size := by omega
      have hz2 : w.heap.size + 1 + 1 < wx.heap.size := by omega
      have hz3 : w.heap.size + 1 + 1 + 1 < wx.heap.size := by omega
      obtain ⟨hc, hf⟩ := bcell hb
      have HBX := Lib.hid hb
      clear hb hz
      simp [depsS, Region.binds, updS, Stay.is, Stay.any] at hd
      go_simp
      first | exact ⟨Below.refl _ _, rfl⟩ | rfl
    intro u w5 hb hE
    have e0 : u 0 = _ := endS_get hE 0 (by decide)
    have e1 : u 1 = _ := endS_get hE 1 (by decide)
    have e2 : u 2 = _ := endS_get hE 2 (by decide)
    obtain ⟨y3, hy3⟩ : ∃ y, u 3 = y := ⟨_, rfl⟩
    obtain ⟨y4, hy4⟩ : ∃ y, u 4 = y := ⟨_, rfl⟩
    obtain ⟨y5, hy5⟩ : ∃ y, u 5 = y := ⟨_, rfl⟩
    have e6 : u 6 = _ := endS_get hE 6 (by decide)
    have hA7 : BrAt w5 (u 7) NN (insF eb (placeI Br.id eb nb id') ⟨id', sect', grade', len', heat'⟩) ∧ NewFrom w1.heap.size (u 7) := endS_get hE 7 (by decide)
    obtain ⟨l7, hl7⟩ : ∃ l7, u 7 = l7 := ⟨_, rfl⟩
    rw [hl7] at hA7
    have HA7 := Lib.hid hA7
    clear hA7
    have e8 : u 8 = _ := endS_get hE 8 (by decide)
    simp only [List.drop_succ_cons, List.drop_zero, List.take_succ_cons, List.take_zero, fillL, Act.put, List.setIfInBounds_toArray, List.set_cons_zero, List.set_cons_succ, e0, e1, e2, hy3, hy4, hy5, e6, hl7, e8]
    clear e0 e1 e2 hy3 hy4 hy5 e6 hl7 e8 hE
    have HBw5 := Lib.hid (below_step (w := w1) (by first | assumption | go_grown) hb)
    have HBXw5 := Lib.hid hb
    have hzw5 := hb.size
    (try simp only [World.size_alloc, World.size_setCell] at hzw5)
    have hzw50 : w.heap.size < w5.heap.size := by omega
    have hzw51 : w.heap.size + 1 < w5.heap.size := by omega
    have hzw52 : w.heap.size + 1 + 1 < w5.heap.size := by omega
    have hzw53 : w.heap.size + 1 + 1 + 1 < w5.heap.size := by omega
    obtain ⟨hcw5, hfw5⟩ := bcell hb
    clear hb hzw5
    have HW5 : Hid (Below w.heap.size w w5) := below_step HBw1.out HBw5.out
    have HN7 := Lib.hid HA7.out.2
    obtain ⟨o7, c7, rfl, -, -, -⟩ := HA7.out.1.form
    by_cases hA0 : AE = 0
    · subst hA0
      have HZ : Hid (RR = 0 ∧ NS = ns ∧ NB = nb + 1 ∧ NN = nb + 1) := by
        have h1 : RR = 0 := by rw [← HRR.out]; rfl
        exact ⟨h1, by rw [← HNS.out, if_pos h1], by rw [← HNB.out, if_pos h1], by rw [← HNN.out, if_pos rfl]⟩
      go_wp2_with fail
      (go_at_call 38; refine (copied_any _ ns es nb eb _ (HST.out.below HW5.out) n1 n2).mono ?_; rintro e w6 ⟨va', vb', rfl, h1, h2, h3, h4, hb⟩)
      have H1 := Lib.hid h1
      have H2 := Lib.hid h2
      have H3 := Lib.hid (h3.mono (Nat.le_trans (Nat.le_of_lt hzw53) (Nat.le_refl _) : w.heap.size + 1 + 1 + 1 ≤ w5.heap.size))
      have H4 := Lib.hid (h4.mono (Nat.le_trans (Nat.le_of_lt hzw53) (Nat.le_refl _) : w.heap.size + 1 + 1 + 1 ≤ w5.heap.size))
      have H3' := Lib.hid h3
      have H4' := Lib.hid h4
      obtain ⟨o1, c1, rfl, -, -, -⟩ := h1.form
      obtain ⟨o2, c2, rfl, -, -, -⟩ := h2.form
      have HB6 : Hid (Below w5.heap.size w5 w6) := hb
      have hs6 := hb.size
      have y3 : w.heap.size + 1 + 1 + 1 < w6.heap.size := by omega
      have q0 : w6.cell? ⟨w.heap.size + 1 + 1 + 1, 0, none⟩ = some (.slice none 0 0) := (HB6.out.cell (p := ⟨_, _, none⟩) hzw53).trans ((HBXw5.out.cell (p := ⟨_, _, none⟩) z3).trans r0)
      have q1 : w6.cell? ⟨w.heap.size + 1 + 1 + 1, 1, none⟩ = some (.slice none 0 0) := (HB6.out.cell (p := ⟨_, _, none⟩) hzw53).trans ((HBXw5.out.cell (p := ⟨_, _, none⟩) z3).trans r1)
      have qf0 : w6.frozen? ⟨w.heap.size + 1 + 1 + 1, 0, none⟩ = false := (HB6.out.frozen (p := ⟨_, _, none⟩) hzw53).trans ((HBXw5.out.frozen (p := ⟨_, _, none⟩) z3).trans rf0)
      have qf1 : w6.frozen? ⟨w.heap.size + 1 + 1 + 1, 1, none⟩ = false := (HB6.out.frozen (p := ⟨_, _, none⟩) hzw53).trans ((HBXw5.out.frozen (p := ⟨_, _, none⟩) z3).trans rf1)
      clear hb h1 h2 h3 h4 hs6 hcw5 hfw5
      have g0 : ((w6.setCell ⟨w.heap.size + 1 + 1 + 1, 0, none⟩ (.slice o1 ns c1)).setCell ⟨w.heap.size + 1 + 1 + 1, 1, none⟩ (.slice o2 nb c2)).cell? ⟨w.heap.size + 1 + 1 + 1, 0, none⟩ = some (.slice o1 ns c1) := by simp (maxDischargeDepth := 9) [go_sem, q0, q1]
      have g1 : ((w6.setCell ⟨w.heap.size + 1 + 1 + 1, 0, none⟩ (.slice o1 ns c1)).setCell ⟨w.heap.size + 1 + 1 + 1, 1, none⟩ (.slice o2 nb c2)).cell? ⟨w.heap.size + 1 + 1 + 1, 1, none⟩ = some (.slice o2 nb c2) := by simp (maxDischargeDepth := 9) [go_sem, q0, q1]
      go_wp2
      all_goals (refine bodyPost_ret (v := .tuple #[.agg #[.slice o1 ns c1, .slice o7 NN c7], .int .i64 0]) (by simp (maxDischargeDepth := 9) [results, Tryd.results18, go_sem, *]) rfl ?_)
      have HM7 := Lib.hid (HN7.out.mono (by omega : w.heap.size + 1 + 1 + 1 + 1 ≤ w1.heap.size))
      have HM1 := Lib.hid (H3'.out.mono (by omega : w.heap.size + 1 + 1 + 1 + 1 ≤ w5.heap.size))
      have HM2 := Lib.hid (H4'.out.mono (by omega : w.heap.size + 1 + 1 + 1 + 1 ≤ w5.heap.size))
      have HA6 := Lib.hid (HA7.out.1.below HB6.out)
      rw [HZ.out.1, HZ.out.2.1, HZ.out.2.2.1]
      rw [HZ.out.2.2.2] at HA6 HM7 ⊢
      refine ⟨_, rfl, ⟨_, _, rfl, ?_, ?_⟩, ⟨_, _, rfl, ?_, ?_⟩, ?_⟩
      · exact sh_set (sh_set (sh_set (sh_set (sh_set (H1.out) HM1.out _ _ _ (by omega)) HM1.out _ _ _ (by omega)) HM1.out _ _ _ (by omega)) HM1.out _ _ _ (by omega)) HM1.out _ _ _ (by omega)
      · exact br_set (br_set (br_set (br_set (br_set (HA6.out) HM7.out _ _ _ (by omega)) HM7.out _ _ _ (by omega)) HM7.out _ _ _ (by omega)) HM7.out _ _ _ (by omega)) HM7.out _ _ _ (by omega)
      · exact HM1.out.mono (by omega)
      · exact HM7.out.mono (by omega)
      · exact (((((below_step HW5.out HB6.out).setCell (show w.heap.size ≤ w.heap.size + 1 + 1 + 1 by omega) _).setCell (show w.heap.size ≤ w.heap.size + 1 + 1 + 1 by omega) _).setCell (show w.heap.size ≤ w.heap.size + 1 + 1 + 1 by omega) _).setCell (show w.heap.size ≤ w.heap.size + 1 + 1 + 1 by omega) _).setCell (show w.heap.size ≤ w.heap.size + 1 + 1 + 1 by omega) _
    · have HZ : Hid (RR = AE ∧ NS = 0 ∧ NB = 0) := by
        have h1 : RR = AE := by rw [← HRR.out]; rfl
        exact ⟨h1, by rw [← HNS.out, if_neg (by rw [h1]; exact hA0)], by rw [← HNB.out, if_neg (by rw [h1]; exact hA0)]⟩
      have k0 : (AE != 0) = true := by simpa using hA0
      clear hA0
      go_wp2
      all_goals (refine bodyPost_ret (v := .tuple #[.agg #[.slice none 0 0, .slice none 0 0], .int .i64 AE]) (by simp (maxDischargeDepth := 9) [results, Tryd.results18, go_sem, *]) rfl ?_)
      rw [HZ.out.1, HZ.out.2.1, HZ.out.2.2]
      exact ⟨_, rfl, St_zero _ _ _, ⟨_, _, rfl, newFrom_nil _, newFrom_nil _⟩, ((HW5.out).setCell (show w.heap.size ≤ w.heap.size + 1 + 1 + 1 by omega) _).setCell (show w.heap.size ≤ w.heap.size + 1 + 1 + 1 by omega) _⟩
  · have HZ : Hid (RR = EE ∧ NS = 0 ∧ NB = 0) := by
      have h1 : RR = EE := by rw [← HRR.out]; exact if_pos hE0
      exact ⟨h1, by rw [← HNS.out, if_neg (by rw [h1]; exact hE0)], by rw [← HNB.out, if_neg (by rw [h1]; exact hE0)]⟩
    have k0 : (EE != 0) = true := by simpa using hE0
    clear hE0
    go_wp2
    all_goals (refine bodyPost_ret (v := .tuple #[.agg #[.slice none 0 0, .slice none 0 0], .int .i64 EE]) (by simp (maxDischargeDepth := 9) [results, Tryd.results18, go_sem, *]) rfl ?_)
    rw [HZ.out.1, HZ.out.2.1, HZ.out.2.2]
    exact ⟨_, rfl, St_zero _ _ _, ⟨_, _, rfl, newFrom_nil _, newFrom_nil _⟩, ((HBw1.out).setCell (show w.heap.size ≤ w.heap.size + 1 + 1 + 1 by omega) _).setCell (show w.heap.size ≤ w.heap.size + 1 + 1 + 1 by omega) _⟩
end Go.Proofs.YtiddpaaihloopaaDoor
