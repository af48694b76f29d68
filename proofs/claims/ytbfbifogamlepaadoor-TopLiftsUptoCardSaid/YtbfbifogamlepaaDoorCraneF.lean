/-
  append onto an empty end copies; the program's Find, by a walk. Conditions: none. By an AI agent.
-/
import Derived.Test.YtbfbifogamlepaaDoorCraneE
import Derived.Test.YtbfbifogamlepaaDoorRel
import Derived.ArgAppend
namespace Go.Proofs.YtbfbifogamlepaaDoor
open Go.RowKit
set_option linter.unusedSimpArgs false

theorem info_rating : (Tryd.prog.info? 62).map (fun i => (i.zero, i.size, i.bytes)) = some (some (.agg #[.int .i64 0, .int .i64 0]), 2, 16) := by kernel_rfl
theorem under_ratings : Tryd.prog.underlying 37 = some (.slice 62) := by kernel_rfl
/-- append onto an empty end copies -/
theorem run_copy {W : World} (ty : TypeId) (oc : Option Addr) (cc m : Nat) (r q : Nat → Int) (h : PairsAt W (.slice oc m cc) m r q) (hm : m ≤ 1000) :
    ∃ v' w', (Builtin.append_ #[37, 37] ty #[.slice oc 0 0, .slice oc m cc]).run Tryd.prog W = .ok v' w' ∧ Below W.heap.size W w' ∧ PairsAt w' v' m r q ∧
      ∃ oa c, v' = .slice oa m c ∧ (0 < m → ∀ b o, oa = some ⟨b, o, none⟩ → W.heap.size ≤ b) := by
  obtain ⟨i, hi, hi2⟩ := Option.map_eq_some_iff.1 info_rating
  simp only [Prod.mk.injEq] at hi2
  obtain ⟨hz, hsz, hby⟩ := hi2
  by_cases h0 : m = 0
  · subst h0
    have key : (Builtin.append_ #[37, 37] ty #[.slice oc 0 0, .slice oc 0 cc]).run Tryd.prog W = .ok (.slice oc 0 0) W := by
      cases oc with
      | none => simp [Builtin.append_, run_underlying under_ratings, sizeOf, typeInfo, hi, hsz, Builtin.lenOf, Builtin.firstCells, go_sem]
      | some a0 => simp [Builtin.append_, run_underlying under_ratings, sizeOf, typeInfo, hi, hsz, Builtin.lenOf, Builtin.firstCells, go_sem]
    exact ⟨_, _, key, Below.refl _ _, ⟨oc, 0, rfl, by omega, by omega, fun hh => by omega⟩, oc, 0, rfl, fun hh => by omega⟩
  · obtain ⟨oa, cap, e, h1, h2, h3⟩ := h
    simp only [Value.slice.injEq] at e
    obtain ⟨rfl, -, rfl⟩ := e
    obtain ⟨b, off, rfl, hlt, hc⟩ := h3 (by omega)
    let news : List Value := (List.range (m * 2)).map fun k => if k % 2 = 0 then .int .i64 (r (k / 2)) else .int .i64 (q (k / 2))
    have hl : news.length = m * 2 := by simp [news]
    have hn : ∀ (k : Nat) (u : Value), news[k]? = some u → W.cell? (Addr.add ⟨b, off, none⟩ k) = some u := by
      intro k u hk
      have hkl : k < m * 2 := by rw [← hl]; exact (List.getElem?_eq_some_iff.1 hk).1
      have hu : u = if k % 2 = 0 then .int .i64 (r (k / 2)) else .int .i64 (q (k / 2)) := by
        simp [news, hkl] at hk; exact hk.symm
      have hcc := hc (k / 2) (k % 2) (by omega) (by omega)
      rw [show k / 2 * 2 + k % 2 = k by omega] at hcc
      rw [hu]
      have e2 : Addr.add ⟨b, off, none⟩ k = ⟨b, off + k, none⟩ := Addr.add_lit _ _ _
      rw [e2, hcc]
      rcases Nat.mod_two_eq_zero_or_one k with hh | hh <;> rw [hh] <;> rfl
    obtain ⟨v', w', hrun, hown, hg⟩ := run_append_arg_grows (P := Tryd.prog) (w := W) 37 ty 62 i _ 2 16 under_ratings hi hz hsz hby rfl (by decide) ⟨b, off, none⟩ 0 0 [] rfl (fun j u hj => by simp at hj) ⟨b, off, none⟩ m cc news hl hn (by omega) (by simp [maxLen]; omega) (by omega)
    have hB : Below W.heap.size W w' := ⟨hg.os, hg.tape, hg.output, hg.size, fun k hk => hg.block k hk (by simp)⟩
    refine ⟨v', w', hrun, hB, ?_⟩
    obtain ⟨_, hv | ⟨g, cap2, cur, hv, hge, hgc, hle, hmx, hcs, hcur⟩⟩ := hown
    · omega
    · rw [Nat.zero_add] at hv hle hcur
      simp only [List.nil_append] at hcur
      refine ⟨⟨some ⟨g, 0, none⟩, cap2, hv, hle, hmx, fun _ => ⟨g, 0, rfl, (Array.getElem?_eq_some_iff.1 hgc).1, fun a d ha hd => ?_⟩⟩, _, _, hv, fun _ b' o' hb' => ?_⟩
      · have hk : a * 2 + d < m * 2 := by omega
        have h5 : cur.toList[a * 2 + d]? = some (if (a * 2 + d) % 2 = 0 then .int .i64 (r ((a * 2 + d) / 2)) else .int .i64 (q ((a * 2 + d) / 2))) := by
          have h6 : (cur.toList.take (m * 2))[a * 2 + d]? = news[a * 2 + d]? := by rw [hcur]
          rw [List.getElem?_take_of_lt hk] at h6
          rw [h6]
          simp [news, hk]
        have h7 : w'.cell? ⟨g, 0 + (a * 2 + d), none⟩ = cur.toList[a * 2 + d]? := by simp [World.cell?, hgc]
        rw [h7, h5]
        rcases (by omega : d = 0 ∨ d = 1) with rfl | rfl
        · simp
        · rw [if_neg (by omega), show (a * 2 + 1) / 2 = a by omega]; rfl
      · simp only [Option.some.injEq, Addr.mk.injEq] at hb'
        omega

theorem SliceAt.set {w : World} {oa : Option Addr} {c n sz : Nat} {f : Nat → Nat → Value} (h : SliceAt w (.slice oa n c) n sz f) (p : Addr) (x : Value) (hne : 0 < n → ∀ b o, oa = some ⟨b, o, none⟩ → b ≠ p.block) : SliceAt (w.setCell p x) (.slice oa n c) n sz f := by
  obtain ⟨oa', c', e, h1, h2, h3⟩ := h
  simp only [Value.slice.injEq] at e
  obtain ⟨rfl, -, rfl⟩ := e
  refine ⟨oa, c, rfl, h1, h2, fun h0 => ?_⟩
  obtain ⟨b, off, e, hlt, hc⟩ := h3 h0
  refine ⟨b, off, e, by simpa using hlt, fun i j hi hj => ?_⟩
  have hb := hne h0 b off e
  rw [← hc i j hi hj]
  exact World.cell?_setCell_other _ _ _ _ (fun e => hb (by rw [e]))
/-- what the operations of the copying region yield -/
def fdV (oc : Option Addr) (cc m : Nat) (r q : Nat → Int) (A : Nat) (i : Nat) (v : Value) (w : World) : Prop :=
  match i with
  | 0 => v = .pointer (some ⟨A, 1, none⟩)
  | 1 => v = .slice oc m cc
  | 2 => v = .slice oc 0 0
  | 3 => v = .pointer (some ⟨A, 1, none⟩)
  | 4 => v = .slice oc m cc
  | 5 => PairsAt w v m r q ∧ ∃ oa c, v = .slice oa m c ∧ (0 < m → ∀ b o, oa = some ⟨b, o, none⟩ → A < b)
  | _ => v = .pointer (some ⟨A, 1, none⟩)
set_option maxHeartbeats 4000000 in
theorem find_any (v : Value) (n : Nat) (nm : Nat → ByteArray) (cv : Nat → Value) (rn : Nat → Nat) (r q : Nat → Nat → Int) (x : ByteArray) (w : World) (h : CranesAt w v n nm cv rn r q) (hsmall : ∀ i, i < n → rn i ≤ 1000) :
    Calls Tryd.prog 10 #[v, .string x] w fun e w' => ∃ sv, e = .returned (.tuple #[.agg #[.string (pickName n nm (findF n nm x)), sv], .bool (decide (findF n nm x < n))]) ∧ PairsAt w' sv (findLen n rn (findF n nm x)) (r (findF n nm x)) (q (findF n nm x)) ∧ Below w.heap.size w w' := by
  have HCR := Lib.hid h.2
  obtain ⟨oa, cap, rfl, hn, hel⟩ := h.form
  have HEL := Lib.hid hel
  clear h hel
  obtain ⟨F, hR⟩ : ∃ F, findF n nm x = F := ⟨_, rfl⟩
  have HR : Hid (firstFrom (fun i => (nm i).toList == x.toList) n 0 = F) := hR
  rw [hR]
  obtain ⟨R1, hR1⟩ : ∃ R, pickName n nm F = R := ⟨_, rfl⟩
  have HR1 := Lib.hid hR1
  obtain ⟨R2, hR2⟩ : ∃ R, decide (F < n) = R := ⟨_, rfl⟩
  have HR2 := Lib.hid hR2
  obtain ⟨R3, hR3⟩ : ∃ R, findLen n rn F = R := ⟨_, rfl⟩
  have HR3 := Lib.hid hR3
  rw [hR1, hR2, hR3]
  clear hR hR1 hR2 hR3
  go_enter Tryd.func10, Tryd.ntmps10
  go_wp2
  go_loopw [10] (fun i wr => ∃ j : Nat, j ≤ n ∧ i = .int .i64 j ∧ Hid (firstFrom (fun i => (nm i).toList == x.toList) (n - j) j = F) ∧ Below (w.alloc (.cells #[.string ⟨#[]⟩, .slice none 0 0] 39)).heap.size (w.alloc (.cells #[.string ⟨#[]⟩, .slice none 0 0] 39)) wr) (fun i _ => n - (intOf i).toNat)
  case atStart => exact ⟨0, by omega, rfl, HR.out, Below.refl _ _⟩
  case round =>
    obtain ⟨j, hj, rfl, hq, hb⟩ := hrel
    have hW : w.heap.size < wr.heap.size := by have := hb.size; simp at this; omega
    have cB0 : wr.cell? ⟨w.heap.size, 0, none⟩ = some (.string ⟨#[]⟩) := (hb.cell (p := ⟨_, _, none⟩) (by simp)).trans (by simp [go_sem])
    have cB1 : wr.cell? ⟨w.heap.size, 1, none⟩ = some (.slice none 0 0) := (hb.cell (p := ⟨_, _, none⟩) (by simp)).trans (by simp [go_sem])
    have fB0 : wr.frozen? ⟨w.heap.size, 0, none⟩ = false := (hb.frozen (p := ⟨_, _, none⟩) (by simp)).trans (by simp [go_sem])
    have fB1 : wr.frozen? ⟨w.heap.size, 1, none⟩ = false := (hb.frozen (p := ⟨_, _, none⟩) (by simp)).trans (by simp [go_sem])
    by_cases hlt : j < n
    · obtain ⟨b, off, rfl, hbl, hcl⟩ := HEL.out j hlt
      have c0 : wr.cell? ⟨b, off + j * 2, none⟩ = some (.string (nm j)) := ((hb.cell (p := ⟨_, _, none⟩) (by simp; omega)).trans (World.cell?_alloc_lt _ _ _ hbl)).trans (hcl j hlt).1
      have c1 : wr.cell? ⟨b, off + j * 2 + 1, none⟩ = some (cv j) := ((hb.cell (p := ⟨_, _, none⟩) (by simp; omega)).trans (World.cell?_alloc_lt _ _ _ hbl)).trans (hcl j hlt).2
      obtain ⟨oc, cc, hcv, hcn, -⟩ := (HCR.out j hlt).2.form
      have hns := (HCR.out j hlt).1
      have HP := Lib.hid (HCR.out j hlt).2
      rw [hcv] at c1 HP
      clear hcv
      have hbr : b < wr.heap.size := by have := hb.size; omega
      have HBr := Lib.hid hb
      have hsz : w.heap.size ≤ wr.heap.size := by have := hb.size; omega
      clear hcl hb
      have hsm := hsmall j hlt
      have hne : b ≠ w.heap.size := by omega
      have hne2 : w.heap.size ≠ wr.heap.size := by omega
      by_cases h1 : ((nm j).toList == x.toList) = true
      · have hF : F = j := hq.out.symm.trans (firstFrom_hit hlt h1)
        have hr : R1 = nm j := by rw [← HR1.out, hF]; exact if_pos hlt
        have hr2 : R2 = true := by rw [← HR2.out, hF]; exact decide_eq_true hlt
        have hr3 : R3 = rn j := by rw [← HR3.out, hF]; exact if_pos hlt
        have HR9 := Lib.hid hr
        have HR8 := Lib.hid hr2
        have HR7 : Hid (R3 = rn j ∧ F = j) := ⟨hr3, hF⟩
        clear hr hr2 hr3 hF
        go_wp2_with fail
        refine wp_region_rel 7 (fdV oc cc (rn j) (r j) (q j) wr.heap.size) (by kernel_rfl) (by kernel_rfl) ?_ ?_ ?_
        · intro i v wa wb hb hv
          unfold fdV at *
          split at hv <;> first | exact hv | exact ⟨hv.1.below hb, hv.2⟩
        · simp only [List.take_succ_cons, List.take_zero, fillL, Act.put, List.setIfInBounds_toArray, List.set_cons_zero, List.set_cons_succ]
          refine ⟨?_, ?_, ?_, ?_, ?_, ?_, ?_, trivial⟩
          · intro u wx hb hd
            have hz := hb.size
            simp only [World.size_alloc] at hz
            have hz0 : wr.heap.size < wx.heap.size := by omega
            have y0 : wx.cell? ⟨wr.heap.size, 0, none⟩ = some (.string (nm j)) := by rw [hb.cell (p := ⟨_, _, none⟩) (by simp)]; simp [go_sem]
            have y1 : wx.cell? ⟨wr.heap.size, 1, none⟩ = some (.slice oc (rn j) cc) := by rw [hb.cell (p := ⟨_, _, none⟩) (by simp)]; simp [go_sem]
            have HB := Lib.hid hb
            clear hb
            simp [depsV, Region.binds, fdV] at hd
            go_simp
            exact ⟨Below.refl _ _, rfl⟩
          · intro u wx hb hd
            have hz := hb.size
            simp only [World.size_alloc] at hz
            have hz0 : wr.heap.size < wx.heap.size := by omega
            have y0 : wx.cell? ⟨wr.heap.size, 0, none⟩ = some (.string (nm j)) := by rw [hb.cell (p := ⟨_, _, none⟩) (by simp)]; simp [go_sem]
            have y1 : wx.cell? ⟨wr.heap.size, 1, none⟩ = some (.slice oc (rn j) cc) := by rw [hb.cell (p := ⟨_, _, none⟩) (by simp)]; simp [go_sem]
            have HB := Lib.hid hb
            clear hb
            simp [depsV, Region.binds, fdV] at hd
            go_simp
            exact ⟨Below.refl _ _, rfl⟩
          · intro u wx hb hd
            have hz := hb.size
            simp only [World.size_alloc] at hz
            have hz0 : wr.heap.size < wx.heap.size := by omega
            have y0 : wx.cell? ⟨wr.heap.size, 0, none⟩ = some (.string (nm j)) := by rw [hb.cell (p := ⟨_, _, none⟩) (by simp)]; simp [go_sem]
            have y1 : wx.cell? ⟨wr.heap.size, 1, none⟩ = some (.slice oc (rn j) cc) := by rw [hb.cell (p := ⟨_, _, none⟩) (by simp)]; simp [go_sem]
            have HB := Lib.hid hb
            clear hb
            simp [depsV, Region.binds, fdV] at hd
            go_simp
            exact ⟨Below.refl _ _, rfl⟩
          · intro u wx hb hd
            have hz := hb.size
            simp only [World.size_alloc] at hz
            have hz0 : wr.heap.size < wx.heap.size := by omega
            have y0 : wx.cell? ⟨wr.heap.size, 0, none⟩ = some (.string (nm j)) := by rw [hb.cell (p := ⟨_, _, none⟩) (by simp)]; simp [go_sem]
            have y1 : wx.cell? ⟨wr.heap.size, 1, none⟩ = some (.slice oc (rn j) cc) := by rw [hb.cell (p := ⟨_, _, none⟩) (by simp)]; simp [go_sem]
            have HB := Lib.hid hb
            clear hb
            simp [depsV, Region.binds, fdV] at hd
            go_simp
            exact ⟨Below.refl _ _, rfl⟩
          · intro u wx hb hd
            have hz := hb.size
            simp only [World.size_alloc] at hz
            have hz0 : wr.heap.size < wx.heap.size := by omega
            have y0 : wx.cell? ⟨wr.heap.size, 0, none⟩ = some (.string (nm j)) := by rw [hb.cell (p := ⟨_, _, none⟩) (by simp)]; simp [go_sem]
            have y1 : wx.cell? ⟨wr.heap.size, 1, none⟩ = some (.slice oc (rn j) cc) := by rw [hb.cell (p := ⟨_, _, none⟩) (by simp)]; simp [go_sem]
            have HB := Lib.hid hb
            clear hb
            simp [depsV, Region.binds, fdV] at hd
            go_simp
            exact ⟨Below.refl _ _, rfl⟩
          · intro u wx hb hd
            have hz := hb.size
            simp only [World.size_alloc] at hz
            have hz0 : wr.heap.size < wx.heap.size := by omega
            have y0 : wx.cell? ⟨wr.heap.size, 0, none⟩ = some (.string (nm j)) := by rw [hb.cell (p := ⟨_, _, none⟩) (by simp)]; simp [go_sem]
            have y1 : wx.cell? ⟨wr.heap.size, 1, none⟩ = some (.slice oc (rn j) cc) := by rw [hb.cell (p := ⟨_, _, none⟩) (by simp)]; simp [go_sem]
            have HB := Lib.hid hb
            clear hb
            simp [depsV, Region.binds, fdV] at hd
            obtain ⟨v', w', hrun, hB2, hP2, oa', c', hv', hfar⟩ := run_copy (W := wx) 37 oc cc (rn j) (r j) (q j) ((HP.out.below ((below_step (w := w) (by go_grown) HBr.out).alloc hsz _)).below HB.out) (by omega)
            rw [if_pos (by simp [Region.wanted])]
            unfold relOp
            simp only [execOp, resolve, invoke, builtin, Act.eval, Result.andThen, relUpon, hd]
            simp [resolve, invoke, builtin, Act.eval, Result.andThen, relUpon, hrun, hd] 
            exact ⟨hB2, hP2, oa', c', hv', fun h0 b' o' hb' => by have := hfar h0 b' o' hb'; omega⟩
          · intro u wx hb hd
            have hz := hb.size
            simp only [World.size_alloc] at hz
            have hz0 : wr.heap.size < wx.heap.size := by omega
            have y0 : wx.cell? ⟨wr.heap.size, 0, none⟩ = some (.string (nm j)) := by rw [hb.cell (p := ⟨_, _, none⟩) (by simp)]; simp [go_sem]
            have y1 : wx.cell? ⟨wr.heap.size, 1, none⟩ = some (.slice oc (rn j) cc) := by rw [hb.cell (p := ⟨_, _, none⟩) (by simp)]; simp [go_sem]
            have HB := Lib.hid hb
            clear hb
            simp [depsV, Region.binds, fdV] at hd
            go_simp
            exact ⟨Below.refl _ _, rfl⟩
        · intro u w1 hb hV
          obtain ⟨hP5, oa, c5, h5, hfar⟩ : fdV oc cc (rn j) (r j) (q j) wr.heap.size 5 (u 5) w1 := hV 5 (by decide)
          have h6 : u 6 = .pointer (some ⟨wr.heap.size, 1, none⟩) := hV 6 (by decide)
          rw [h5] at hP5
          have HP5 := Lib.hid hP5
          have HFAR := Lib.hid hfar
          clear hV hP5 hfar
          simp only [List.drop_succ_cons, List.drop_zero, List.take_succ_cons, List.take_zero, fillL, Act.put, List.setIfInBounds_toArray, List.set_cons_zero, List.set_cons_succ, h5, h6]
          have HB1 : Hid (Below (wr.alloc (.cells #[.string (nm j), .slice oc (rn j) cc] 39)).heap.size (wr.alloc (.cells #[.string (nm j), .slice oc (rn j) cc] 39)) w1) := hb
          have hz := hb.size
          simp only [World.size_alloc] at hz
          have hz0 : wr.heap.size < w1.heap.size := by omega
          have hz1 : w.heap.size < w1.heap.size := by omega
          have y0 : w1.cell? ⟨wr.heap.size, 0, none⟩ = some (.string (nm j)) := by rw [hb.cell (p := ⟨_, _, none⟩) (by simp)]; simp [go_sem]
          have y1 : w1.cell? ⟨wr.heap.size, 1, none⟩ = some (.slice oc (rn j) cc) := by rw [hb.cell (p := ⟨_, _, none⟩) (by simp)]; simp [go_sem]
          have z0 : w1.cell? ⟨w.heap.size, 0, none⟩ = some (.string ⟨#[]⟩) := by rw [hb.cell (p := ⟨_, _, none⟩) (by simp; omega), World.cell?_alloc_lt _ _ _ hW]; exact cB0
          have z1 : w1.cell? ⟨w.heap.size, 1, none⟩ = some (.slice none 0 0) := by rw [hb.cell (p := ⟨_, _, none⟩) (by simp; omega), World.cell?_alloc_lt _ _ _ hW]; exact cB1
          have g0 : w1.frozen? ⟨w.heap.size, 0, none⟩ = false := by rw [hb.frozen (p := ⟨_, _, none⟩) (by simp; omega), World.frozen?_alloc_past _ _ _ hW]; exact fB0
          have g1 : w1.frozen? ⟨w.heap.size, 1, none⟩ = false := by rw [hb.frozen (p := ⟨_, _, none⟩) (by simp; omega), World.frozen?_alloc_past _ _ _ hW]; exact fB1
          have g2 : w1.frozen? ⟨wr.heap.size, 1, none⟩ = false := by rw [hb.frozen (p := ⟨_, _, none⟩) (by simp)]; simp [go_sem]
          clear hb h5 h6
          go_wp2
          all_goals (refine bodyPost_ret (v := .tuple #[.agg #[.string (nm j), .slice oa (rn j) c5], .bool true]) (by simp [results, Tryd.results10, go_sem, *]) rfl ?_)
          rw [HR9.out, HR8.out, HR7.out.1, HR7.out.2]
          refine ⟨_, rfl, ?_, ?_⟩
          · refine SliceAt.set (SliceAt.set (SliceAt.set HP5.out _ _ ?_) _ _ ?_) _ _ ?_
            all_goals (intro h0 b' o' hb'; have := HFAR.out h0 b' o' hb'; show b' ≠ _; simp only; omega)
          · have hb0 : Below w.heap.size w w1 := below_step ((below_step (w := w) (by go_grown) HBr.out).alloc (by omega) _) HB1.out
            exact ((hb0.setCell (by simp; omega) _).setCell (by simp) _).setCell (by simp) _
      have hq2 : Hid (firstFrom (fun i => (nm i).toList == x.toList) (n - (j + 1)) (j + 1) = F) := (firstFrom_miss hlt (by simpa using h1)).symm.trans hq.out
      have e1 : ((nm j).toList == x.toList) = false := by simpa using h1
      clear h1
      go_wp2
      go_roundw
      case rel => exact ⟨j + 1, by omega, by go_num, hq2, below_step HBr.out (by go_grown)⟩
      case measure => simp [intOf]; omega
    · have hF : F = n := hq.out.symm.trans (firstFrom_end hj hlt)
      have hr : R1 = ⟨#[]⟩ := by rw [← HR1.out, hF]; simp [pickName]
      have hr2 : R2 = false := by rw [← HR2.out, hF]; simp
      have hr3 : R3 = 0 := by rw [← HR3.out, hF]; simp [findLen]
      have HR9 := Lib.hid hr
      have HR8 := Lib.hid hr2
      have HR7 := Lib.hid hr3
      clear hr hr2 hr3 hF
      have HBr := Lib.hid hb
      clear hb
      go_wp2
      all_goals (refine bodyPost_ret (v := .tuple #[.agg #[.string ⟨#[]⟩, .slice none 0 0], .bool false]) (by simp [results, Tryd.results10, go_sem, *]) rfl ?_)
      rw [HR9.out, HR8.out, HR7.out]
      refine ⟨_, rfl, pairsAt_nil _ _ _, ?_⟩
      exact ((below_step (w := w) (by go_grown) HBr.out).setCell (by simp) _).setCell (by simp) _
end Go.Proofs.YtbfbifogamlepaaDoor
