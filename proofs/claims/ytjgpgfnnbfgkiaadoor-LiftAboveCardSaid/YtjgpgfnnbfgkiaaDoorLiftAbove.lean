/-
  A lift by one hook above the centre, by a crane that can lift the weight alone, is permitted. Conditions: none (the card ties the two tables of unicode/utf8 to the program's text). By an AI agent.
-/
import Derived.Test.YtjgpgfnnbfgkiaaDoorLiftR
import Derived.Test.YtjgpgfnnbfgkiaaDoorLiftS
import Derived.Test.YtjgpgfnnbfgkiaaDoorSeq
namespace Go.Proofs.YtjgpgfnnbfgkiaaDoor
open Go Go.ChangeShapes Go.WideShapes Go.RowKit Go.ChangeAt
set_option linter.unusedSimpArgs false
set_option linter.unusedVariables false
/-- a lift by one hook, its hook in memory -/
def Prp.liftOf (cs : Array Value) (t : TypeId) : Prp where
  R := fun v w => ∃ g : Nat, v = .agg #[.string ⟨#[66, 49]⟩, .slice (some ⟨g, 0, none⟩) 1 1] ∧ w.heap[g]? = some (.cells cs t)
  F := fun v b => v = .agg #[.string ⟨#[66, 49]⟩, .slice (some ⟨b, 0, none⟩) 1 1]
  grow := fun v w w' hb ⟨g, h1, h2⟩ => ⟨g, h1, by rw [hb.block g (Array.getElem?_eq_some_iff.1 h2).1]; exact h2⟩
  kept := fun v w w' b cs t hs hn ⟨g, h1, h2⟩ => ⟨g, h1, by rw [hs.other g (fun e => hn (by rw [h1, e]))]; exact h2⟩
  lt := fun v w b ⟨g, h1, h2⟩ hf => by
    rw [h1] at hf
    have : g = b := by simpa using hf
    rw [← this]; exact (Array.getElem?_eq_some_iff.1 h2).1
set_option maxRecDepth 20000 in
set_option maxHeartbeats 8000000 in
theorem liftAbove_walk (m x y z v : Int) (cv : Value) (nc : Nat) (nm : Nat → ByteArray) (cw : Nat → Value) (rn : Nat → Nat) (rr qq : Nat → Nat → Int) (rad : Int) (w : World) (hm : MaxLenIs w) (hc : CranesAt w cv nc nm cw rn rr qq) : Calls Tryd.prog 10 #[.agg #[.int .i64 m, .int .i64 x, .int .i64 y, .int .i64 z, .int .i64 v], cv, .int .i64 rad] w fun e w' => e = .returned (.bool true) ∧ Below w.heap.size w w' := by
  have HM := Lib.hid hm
  have HC := Lib.hid hc
  obtain ⟨oa, cap, rfl, hn, hel⟩ := hc.form
  have HEL := Lib.hid hel
  have HNS : Hid (∀ i, i < nc → (nm i).size ≤ 9223372036854775807) := fun i hi => (HC.out.2 i hi).1
  obtain ⟨LB, hLB⟩ : ∃ LB, lightB nc rn = LB := ⟨_, rfl⟩
  have HLB := Lib.hid hLB
  obtain ⟨K, hK⟩ : ∃ K, checkF nc nm rn rr qq = K := ⟨_, rfl⟩
  have HK := Lib.hid hK
  clear hm hc hel hLB hK
  cases LB
  · go_enter Tryd.func10, Tryd.ntmps10
    go_wp2_with fail
    (go_at_call 17; refine (light_any _ _ _ _ _ _ _ _ (HC.out.below ((Below.refl w.heap.size w).alloc (Nat.le_refl _) _))).mono ?_; rintro e w1 ⟨rfl, hb⟩)
    rw [HLB.out]
    have hs1 := hb.size
    (try simp only [World.size_alloc] at hs1)
    have z10 : w.heap.size < w1.heap.size := by omega
    have c01 : w1.cell? ⟨w.heap.size, 0, none⟩ = some (.int .i64 m) := (hb.cell (p := ⟨_, _, none⟩) (by simp <;> omega)).trans (by simp [go_sem])
    have c11 : w1.cell? ⟨w.heap.size, 1, none⟩ = some (.int .i64 x) := (hb.cell (p := ⟨_, _, none⟩) (by simp <;> omega)).trans (by simp [go_sem])
    have c21 : w1.cell? ⟨w.heap.size, 2, none⟩ = some (.int .i64 y) := (hb.cell (p := ⟨_, _, none⟩) (by simp <;> omega)).trans (by simp [go_sem])
    have c31 : w1.cell? ⟨w.heap.size, 3, none⟩ = some (.int .i64 z) := (hb.cell (p := ⟨_, _, none⟩) (by simp <;> omega)).trans (by simp [go_sem])
    have c41 : w1.cell? ⟨w.heap.size, 4, none⟩ = some (.int .i64 v) := (hb.cell (p := ⟨_, _, none⟩) (by simp <;> omega)).trans (by simp [go_sem])
    have HB1 : Hid (Below w.heap.size w w1) := by
      show Below _ _ _
      exact below_step (w := w) (by go_grown) hb
    clear hb hs1
    go_wp2_with fail
    (go_at_call 13; refine (awake_any _ (HM.out.below HB1.out)).mono ?_; rintro e w2 ⟨rfl, hb⟩)
    have HB2 := Lib.hid (below_step HB1.out hb)
    clear hb
    go_wp2
    go_returns
    exact ⟨rfl, HB2.out⟩
  · obtain ⟨h20, hsm⟩ := light_small HLB.out
    have HSM : Hid (∀ i, i < nc → rn i ≤ 1000) := fun i hi => by have := hsm i hi; omega
    have hnc : nc ≤ 1000000 := by omega
    clear hsm
    by_cases hk0 : K = 0
    · subst hk0
      have HAS := Lib.hid (check_asc HK.out)
      obtain ⟨D, hD⟩ : ∃ D, divF m x y z v = D := ⟨_, rfl⟩
      by_cases hd0 : D = 0
      · subst hd0
        obtain ⟨hwok, hm0⟩ := div_zero hD
        obtain ⟨CX, hCX⟩ : ∃ X, roundF x m = X := ⟨_, rfl⟩
        obtain ⟨CY, hCY⟩ : ∃ X, roundF y m = X := ⟨_, rfl⟩
        obtain ⟨CZ, hCZ⟩ : ∃ X, roundF z m = X := ⟨_, rfl⟩
        have hV : roundedV m x y z v = .tuple #[.agg #[.int .i64 CX, .int .i64 CY, .int .i64 CZ], .int .i64 0] := by
          unfold roundedV
          rw [if_pos hD, if_pos hD, if_pos hD, hD, hCX, hCY, hCZ]
        have HV := Lib.hid hV
        have hGE : (grossF m x y z v).2 = 0 := by unfold grossF; rw [if_pos hwok, if_neg (by omega)]
        clear hV hD
        by_cases hin : -524288 ≤ CX ∧ CX ≤ 524288 ∧ -524288 ≤ CY ∧ CY ≤ 524288
        · obtain ⟨g0, g1, g2, g3⟩ := hin
          obtain ⟨G, GE, hG⟩ : ∃ G GE, grossF m x y z v = (G, GE) := ⟨_, _, rfl⟩
          have HAB : Hid (∀ j, j < nc → liftF ⟨#[66, 49]⟩ 1 (fun _ => nm j) (fun _ => CX) (fun _ => CY) (fun _ => rad) m x y z v nc nm rn rr qq = if G ≤ loadF (rn j) (rr j) (qq j) rad then 0 else 25) := by
            intro j hj
            have := above_one (rad := rad) (m := m) (x := x) (y := y) (z := z) (v := v) (r := rr) (q := qq) (rn := rn) HAS.out hj hGE (by rw [hCX]; exact ⟨g0, g1⟩) (by rw [hCY]; exact ⟨g2, g3⟩)
            rw [hCX, hCY, hG] at this
            exact this
          obtain ⟨l, hl⟩ : ∃ l, optTo nm rn rr qq rad G nc = l := ⟨_, rfl⟩
          have HOL : Hid (optF nc nm rn rr qq rad m x y z v = l) := by
            show _ = _
            unfold optF
            rw [if_neg (fun h => h hGE), hG]
            exact hl
          have HIO : Hid (∀ j, j < nc → inTo l (nm j) l.length = decide (G ≤ loadF (rn j) (rr j) (qq j) rad)) := by
            intro j hj
            rw [← hl]
            exact in_opt HAS.out hj
          have hlen : l.length ≤ nc := by rw [← hl]; exact optTo_len _ _ _ _ _ _ _
          clear hG hGE hwok hm0 hCX hCY hCZ hl
          go_enter Tryd.func10, Tryd.ntmps10
          go_wp2_with fail
          (go_at_call 17; refine (light_any _ _ _ _ _ _ _ _ (HC.out.below ((Below.refl w.heap.size w).alloc (Nat.le_refl _) _))).mono ?_; rintro e w1 ⟨rfl, hb⟩)
          rw [HLB.out]
          have hs1 := hb.size
          (try simp only [World.size_alloc] at hs1)
          have z10 : w.heap.size < w1.heap.size := by omega
          have c01 : w1.cell? ⟨w.heap.size, 0, none⟩ = some (.int .i64 m) := (hb.cell (p := ⟨_, _, none⟩) (by simp <;> omega)).trans (by simp [go_sem])
          have c11 : w1.cell? ⟨w.heap.size, 1, none⟩ = some (.int .i64 x) := (hb.cell (p := ⟨_, _, none⟩) (by simp <;> omega)).trans (by simp [go_sem])
          have c21 : w1.cell? ⟨w.heap.size, 2, none⟩ = some (.int .i64 y) := (hb.cell (p := ⟨_, _, none⟩) (by simp <;> omega)).trans (by simp [go_sem])
          have c31 : w1.cell? ⟨w.heap.size, 3, none⟩ = some (.int .i64 z) := (hb.cell (p := ⟨_, _, none⟩) (by simp <;> omega)).trans (by simp [go_sem])
          have c41 : w1.cell? ⟨w.heap.size, 4, none⟩ = some (.int .i64 v) := (hb.cell (p := ⟨_, _, none⟩) (by simp <;> omega)).trans (by simp [go_sem])
          have HB1 : Hid (Below w.heap.size w w1) := by
            show Below _ _ _
            exact below_step (w := w) (by go_grown) hb
          clear hb hs1
          go_wp2_with fail
          (go_at_call 26; refine (check_any _ _ _ _ _ _ _ _ (HC.out.below HB1.out)).mono ?_; rintro e w2 ⟨rfl, hb⟩)
          rw [HK.out]
          have hs2 := hb.size
          (try simp only [World.size_alloc] at hs2)
          have z20 : w.heap.size < w2.heap.size := by omega
          have c02 : w2.cell? ⟨w.heap.size, 0, none⟩ = some (.int .i64 m) := (hb.cell (p := ⟨_, _, none⟩) z10).trans c01
          have c12 : w2.cell? ⟨w.heap.size, 1, none⟩ = some (.int .i64 x) := (hb.cell (p := ⟨_, _, none⟩) z10).trans c11
          have c22 : w2.cell? ⟨w.heap.size, 2, none⟩ = some (.int .i64 y) := (hb.cell (p := ⟨_, _, none⟩) z10).trans c21
          have c32 : w2.cell? ⟨w.heap.size, 3, none⟩ = some (.int .i64 z) := (hb.cell (p := ⟨_, _, none⟩) z10).trans c31
          have c42 : w2.cell? ⟨w.heap.size, 4, none⟩ = some (.int .i64 v) := (hb.cell (p := ⟨_, _, none⟩) z10).trans c41
          have HB2 : Hid (Below w.heap.size w w2) := by
            show Below _ _ _
            exact below_step HB1.out hb
          clear hb hs2
          clear c01 c11 c21 c31 c41
          go_wp2_with fail
          (go_at_call 25; refine (rounded_any _ _ _ _ _ _).mono ?_; rintro e w3 ⟨rfl, hb⟩)
          rw [HV.out]
          have hs3 := hb.size
          (try simp only [World.size_alloc] at hs3)
          have z30 : w.heap.size < w3.heap.size := by omega
          have c03 : w3.cell? ⟨w.heap.size, 0, none⟩ = some (.int .i64 m) := (hb.cell (p := ⟨_, _, none⟩) z20).trans c02
          have c13 : w3.cell? ⟨w.heap.size, 1, none⟩ = some (.int .i64 x) := (hb.cell (p := ⟨_, _, none⟩) z20).trans c12
          have c23 : w3.cell? ⟨w.heap.size, 2, none⟩ = some (.int .i64 y) := (hb.cell (p := ⟨_, _, none⟩) z20).trans c22
          have c33 : w3.cell? ⟨w.heap.size, 3, none⟩ = some (.int .i64 z) := (hb.cell (p := ⟨_, _, none⟩) z20).trans c32
          have c43 : w3.cell? ⟨w.heap.size, 4, none⟩ = some (.int .i64 v) := (hb.cell (p := ⟨_, _, none⟩) z20).trans c42
          have HB3 : Hid (Below w.heap.size w w3) := by
            show Below _ _ _
            exact below_step HB2.out hb
          clear hb hs3
          clear c02 c12 c22 c32 c42
          have HBa : Hid (Below w.heap.size w (w3.alloc (.cells #[.int .i64 CX, .int .i64 CY, .int .i64 CZ] 57))) := HB3.out.alloc HB3.out.size _
          go_wp2_with fail
          (go_at_call 21; refine (opt_any _ nc nm _ rn rr qq rad m x y z v _ hnc (HC.out.below HBa.out)).mono ?_; rintro e w4 ⟨lv, rfl, hov, hb⟩)
          rw [HOL.out] at hov
          obtain ⟨oo, oc, rfl, -, hll⟩ := hov.form
          have hs4 := hb.size
          (try simp only [World.size_alloc] at hs4)
          have z40 : w.heap.size < w4.heap.size := by omega
          have z41 : w3.heap.size < w4.heap.size := by omega
          have n43 : w.heap.size ≠ w3.heap.size := by omega
          have c04 : w4.cell? ⟨w.heap.size, 0, none⟩ = some (.int .i64 m) := (hb.cell (p := ⟨_, _, none⟩) (by simp <;> omega)).trans ((World.cell?_alloc_lt _ _ _ z30).trans c03)
          have c14 : w4.cell? ⟨w.heap.size, 1, none⟩ = some (.int .i64 x) := (hb.cell (p := ⟨_, _, none⟩) (by simp <;> omega)).trans ((World.cell?_alloc_lt _ _ _ z30).trans c13)
          have c24 : w4.cell? ⟨w.heap.size, 2, none⟩ = some (.int .i64 y) := (hb.cell (p := ⟨_, _, none⟩) (by simp <;> omega)).trans ((World.cell?_alloc_lt _ _ _ z30).trans c23)
          have c34 : w4.cell? ⟨w.heap.size, 3, none⟩ = some (.int .i64 z) := (hb.cell (p := ⟨_, _, none⟩) (by simp <;> omega)).trans ((World.cell?_alloc_lt _ _ _ z30).trans c33)
          have c44 : w4.cell? ⟨w.heap.size, 4, none⟩ = some (.int .i64 v) := (hb.cell (p := ⟨_, _, none⟩) (by simp <;> omega)).trans ((World.cell?_alloc_lt _ _ _ z30).trans c43)
          have v04 : w4.cell? ⟨w3.heap.size, 0, none⟩ = some (.int .i64 CX) := (hb.cell (p := ⟨_, _, none⟩) (by simp)).trans (by simp [go_sem])
          have v14 : w4.cell? ⟨w3.heap.size, 1, none⟩ = some (.int .i64 CY) := (hb.cell (p := ⟨_, _, none⟩) (by simp)).trans (by simp [go_sem])
          have HB4 := Lib.hid (below_step HBa.out hb)
          clear hb hs4 c03 c13 c23 c33 c43
          have HLL := Lib.hid hll
          obtain ⟨nl, hnl⟩ : ∃ nl, l.length = nl := ⟨_, rfl⟩
          rw [hnl] at hlen ⊢
          have HNL := Lib.hid hnl
          clear hll hov hnl
          go_wp2
          go_loopw [10] (fun i wr => ∃ j : Nat, j ≤ nc ∧ i = .int .i64 j ∧ Below w4.heap.size w4 wr) (fun i _ => nc - (intOf i).toNat)
          case atStart => exact ⟨0, by omega, rfl, Below.refl _ _⟩
          case round =>
            obtain ⟨j, hj, rfl, hb⟩ := hrel
            have HBo := Lib.hid hb
            clear hb
            by_cases hlt : j < nc
            · obtain ⟨b, off, rfl, hbl, hcl⟩ := HEL.out j hlt
              have HNJ := Lib.hid (hcl j hlt).1
              clear hcl
              obtain ⟨s, hs⟩ : ∃ s, nm j = s := ⟨_, rfl⟩
              have hss : s.size ≤ 9223372036854775807 := by rw [← hs]; exact HNS.out j hlt
              have hio := HIO.out j hlt
              have hab := HAB.out j hlt
              rw [hs] at HNJ hio
              have hab : liftF ⟨#[66, 49]⟩ 1 (fun _ => s) (fun _ => CX) (fun _ => CY) (fun _ => rad) m x y z v nc nm rn rr qq = if G ≤ loadF (rn j) (rr j) (qq j) rad then 0 else 25 := by rw [← hs]; exact hab
              rw [HNL.out] at hio
              have HI := Lib.hid hio
              have HA := Lib.hid hab
              clear hio hab hs
              go_wp2
              go_loopw [11, 12] (fun t i wr2 => ∃ k : Nat, k ≤ nl ∧ i = .int .i64 k ∧ t = .bool (inTo l s k) ∧ Below wr.heap.size wr wr2) (fun _ i _ => nl - (intOf i).toNat)
              case atStart => exact ⟨0, by omega, rfl, rfl, Below.refl _ _⟩
              case round =>
                obtain ⟨k, hk, rfl, rfl, hb⟩ := hrel
                have HBi := Lib.hid (below_step HBo.out hb)
                have HBj := Lib.hid hb
                have HBw := Lib.hid (below_step HB4.out (below_step HBo.out hb))
                clear hb
                have hcr : ∀ o, wr.cell? ⟨b, o, none⟩ = w.cell? ⟨b, o, none⟩ := fun o => (HBw.out).cell (p := ⟨_, _, none⟩) hbl
                have nj : wr.cell? ⟨b, off + j * 2, none⟩ = some (.string (s)) := (hcr _).trans HNJ.out
                have hbr : b < wr.heap.size := by have := (HBw.out).size; omega
                clear hcr
                by_cases hlk : k < nl
                · obtain ⟨bl, ofl, rfl, hbll, hcll⟩ := HLL.out k (by rw [HNL.out]; exact hlk)
                  obtain ⟨t, ht⟩ : ∃ t, l.getD k ⟨#[]⟩ = t := ⟨_, rfl⟩
                  have l0 : wr.cell? ⟨bl, ofl + k, none⟩ = some (.string t) := by rw [← ht]; exact (HBi.out.cell (p := ⟨_, _, none⟩) hbll).trans (hcll k (by rw [HNL.out]; exact hlk))
                  have hblr : bl < wr.heap.size := by have := HBi.out.size; omega
                  clear hcll
                  obtain ⟨B, hB⟩ : ∃ B, inTo l s k = B := ⟨_, rfl⟩
                  rw [hB]
                  have hpc := past_cell
                  cases B
                  · by_cases e : (t.toList == s.toList) = true
                    · have hn : inTo l s (k + 1) = true := by unfold inTo; rw [hB, ht, e]; rfl
                      have HN := Lib.hid hn
                      clear hn hB ht
                      go_wp2_with fail
                      refine wp_region_past (by kernel_rfl) (by kernel_rfl) ?_
                      iterate 14 go_big_quiet_step (fail)
                      refine wpQuiet_nil ?_
                      intro w9 hw'
                      have hb1 := past_out hw'
                      clear hw'
                      have HB9 := Lib.hid hb1
                      clear hb1
                      go_wp2
                      go_roundw
                      case rel => exact ⟨k + 1, by omega, by go_num, by rw [HN.out], HBj.out.trans (HB9.out.mono HBj.out.size)⟩
                      case measure => simp [intOf]; omega
                    · have e : (t.toList == s.toList) = false := by simpa using e
                      have hn : inTo l s (k + 1) = false := by unfold inTo; rw [hB, ht, e]; rfl
                      have HN := Lib.hid hn
                      clear hn hB ht
                      go_wp2_with fail
                      refine wp_region_past (by kernel_rfl) (by kernel_rfl) ?_
                      iterate 14 go_big_quiet_step (fail)
                      refine wpQuiet_nil ?_
                      intro w9 hw'
                      have hb1 := past_out hw'
                      clear hw'
                      have HB9 := Lib.hid hb1
                      clear hb1
                      go_wp2
                      go_roundw
                      case rel => exact ⟨k + 1, by omega, by go_num, by rw [HN.out], HBj.out.trans (HB9.out.mono HBj.out.size)⟩
                      case measure => simp [intOf]; omega
                  · have hn : inTo l s (k + 1) = true := by unfold inTo; rw [hB]; rfl
                    have HN := Lib.hid hn
                    clear hn hB ht
                    go_wp2_with fail
                    refine wp_region_past (by kernel_rfl) (by kernel_rfl) ?_
                    iterate 14 go_big_quiet_step (fail)
                    refine wpQuiet_nil ?_
                    intro w9 hw'
                    have hb1 := past_out hw'
                    clear hw'
                    have HB9 := Lib.hid hb1
                    clear hb1
                    go_wp2
                    go_roundw
                    case rel => exact ⟨k + 1, by omega, by go_num, by rw [HN.out], HBj.out.trans (HB9.out.mono HBj.out.size)⟩
                    case measure => simp [intOf]; omega
                · have hkn : k = nl := by omega
                  subst hkn
                  rw [HI.out]
                  obtain ⟨LD, hLD⟩ : ∃ LD, loadF (rn j) (rr j) (qq j) rad = LD := ⟨_, rfl⟩
                  rw [hLD] at HA ⊢
                  have c09 := (HBi.out.cell (p := ⟨w.heap.size, 0, none⟩) z40).trans c04
                  have c19 := (HBi.out.cell (p := ⟨w.heap.size, 1, none⟩) z40).trans c14
                  have c29 := (HBi.out.cell (p := ⟨w.heap.size, 2, none⟩) z40).trans c24
                  have c39 := (HBi.out.cell (p := ⟨w.heap.size, 3, none⟩) z40).trans c34
                  have c49 := (HBi.out.cell (p := ⟨w.heap.size, 4, none⟩) z40).trans c44
                  have v09 := (HBi.out.cell (p := ⟨w3.heap.size, 0, none⟩) z41).trans v04
                  have v19 := (HBi.out.cell (p := ⟨w3.heap.size, 1, none⟩) z41).trans v14
                  have q0 : w.heap.size < wr.heap.size := by have := HBi.out.size; omega
                  have q3 : w3.heap.size < wr.heap.size := by have := HBi.out.size; omega
                  have hBw := HBw.out
                  clear hLD
                  go_wp2_with fail
                  refine wp_region_seq 16 [⟨14, 15, #[.string ⟨#[]⟩, .slice none 0 0], 31⟩] [] (by kernel_rfl) (by kernel_rfl) (by kernel_rfl) (by kernel_rfl) (by kernel_rfl) ?_ ?_ ?_
                  · intro r hr; cases hr
                  · intro r hr; cases hr
                  simp only [List.take_succ_cons, List.take_zero, fillL, Act.put, List.setIfInBounds_toArray, List.set_cons_zero, List.set_cons_succ]
                  apply seq_is (by kernel_rfl)
                  · intro u wx hb hd
                    replace hb := hb.nil
                    have hz := hb.size
                    (try simp only [World.size_alloc, World.size_setCell] at hz)
                    have hz0 : w.heap.size < wx.heap.size := by omega
                    have hz1 : w3.heap.size < wx.heap.size := by omega
                    have hz2 : b < wx.heap.size := by omega
                    obtain ⟨hc, hf⟩ := bcell hb
                    clear hb hz
                    simp [depsE, Region.binds, updE, kindOf, Prp.is, Prp.any] at hd
                    go_simp
                    first | exact ⟨Below.refl _ _, rfl⟩ | rfl
                  apply seq_is (by kernel_rfl)
                  · intro u wx hb hd
                    replace hb := hb.nil
                    have hz := hb.size
                    (try simp only [World.size_alloc, World.size_setCell] at hz)
                    have hz0 : w.heap.size < wx.heap.size := by omega
                    have hz1 : w3.heap.size < wx.heap.size := by omega
                    have hz2 : b < wx.heap.size := by omega
                    obtain ⟨hc, hf⟩ := bcell hb
                    clear hb hz
                    simp [depsE, Region.binds, updE, kindOf, Prp.is, Prp.any] at hd
                    go_simp
                    first | exact ⟨Below.refl _ _, rfl⟩ | rfl
                  apply seq_is (by kernel_rfl)
                  · intro u wx hb hd
                    replace hb := hb.nil
                    have hz := hb.size
                    (try simp only [World.size_alloc, World.size_setCell] at hz)
                    have hz0 : w.heap.size < wx.heap.size := by omega
                    have hz1 : w3.heap.size < wx.heap.size := by omega
                    have hz2 : b < wx.heap.size := by omega
                    obtain ⟨hc, hf⟩ := bcell hb
                    clear hb hz
                    simp [depsE, Region.binds, updE, kindOf, Prp.is, Prp.any] at hd
                    go_simp
                    first | exact ⟨Below.refl _ _, rfl⟩ | rfl
                  apply seq_is (by kernel_rfl)
                  · intro u wx hb hd
                    replace hb := hb.nil
                    have hz := hb.size
                    (try simp only [World.size_alloc, World.size_setCell] at hz)
                    have hz0 : w.heap.size < wx.heap.size := by omega
                    have hz1 : w3.heap.size < wx.heap.size := by omega
                    have hz2 : b < wx.heap.size := by omega
                    obtain ⟨hc, hf⟩ := bcell hb
                    clear hb hz
                    simp [depsE, Region.binds, updE, kindOf, Prp.is, Prp.any] at hd
                    go_simp
                    first | exact ⟨Below.refl _ _, rfl⟩ | rfl
                  apply seq_is (by kernel_rfl)
                  · intro u wx hb hd
                    replace hb := hb.nil
                    have hz := hb.size
                    (try simp only [World.size_alloc, World.size_setCell] at hz)
                    have hz0 : w.heap.size < wx.heap.size := by omega
                    have hz1 : w3.heap.size < wx.heap.size := by omega
                    have hz2 : b < wx.heap.size := by omega
                    obtain ⟨hc, hf⟩ := bcell hb
                    clear hb hz
                    simp [depsE, Region.binds, updE, kindOf, Prp.is, Prp.any] at hd
                    go_simp
                    first | exact ⟨Below.refl _ _, rfl⟩ | rfl
                  apply seq_is (by kernel_rfl)
                  · intro u wx hb hd
                    replace hb := hb.nil
                    have hz := hb.size
                    (try simp only [World.size_alloc, World.size_setCell] at hz)
                    have hz0 : w.heap.size < wx.heap.size := by omega
                    have hz1 : w3.heap.size < wx.heap.size := by omega
                    have hz2 : b < wx.heap.size := by omega
                    obtain ⟨hc, hf⟩ := bcell hb
                    clear hb hz
                    simp [depsE, Region.binds, updE, kindOf, Prp.is, Prp.any] at hd
                    go_simp
                    first | exact ⟨Below.refl _ _, rfl⟩ | rfl
                  apply seq_is (by kernel_rfl)
                  · intro u wx hb hd
                    replace hb := hb.nil
                    have hz := hb.size
                    (try simp only [World.size_alloc, World.size_setCell] at hz)
                    have hz0 : w.heap.size < wx.heap.size := by omega
                    have hz1 : w3.heap.size < wx.heap.size := by omega
                    have hz2 : b < wx.heap.size := by omega
                    obtain ⟨hc, hf⟩ := bcell hb
                    clear hb hz
                    simp [depsE, Region.binds, updE, kindOf, Prp.is, Prp.any] at hd
                    go_simp
                    first | exact ⟨Below.refl _ _, rfl⟩ | rfl
                  apply seq_is (by kernel_rfl)
                  · intro u wx hb hd
                    replace hb := hb.nil
                    have hz := hb.size
                    (try simp only [World.size_alloc, World.size_setCell] at hz)
                    have hz0 : w.heap.size < wx.heap.size := by omega
                    have hz1 : w3.heap.size < wx.heap.size := by omega
                    have hz2 : b < wx.heap.size := by omega
                    obtain ⟨hc, hf⟩ := bcell hb
                    clear hb hz
                    simp [depsE, Region.binds, updE, kindOf, Prp.is, Prp.any] at hd
                    go_simp
                    first | exact ⟨Below.refl _ _, rfl⟩ | rfl
                  apply seq_is (by kernel_rfl)
                  · intro u wx hb hd
                    replace hb := hb.nil
                    have hz := hb.size
                    (try simp only [World.size_alloc, World.size_setCell] at hz)
                    have hz0 : w.heap.size < wx.heap.size := by omega
                    have hz1 : w3.heap.size < wx.heap.size := by omega
                    have hz2 : b < wx.heap.size := by omega
                    obtain ⟨hc, hf⟩ := bcell hb
                    clear hb hz
                    simp [depsE, Region.binds, updE, kindOf, Prp.is, Prp.any] at hd
                    go_simp
                    first | exact ⟨Below.refl _ _, rfl⟩ | rfl
                  apply seq_is (by kernel_rfl)
                  · intro u wx hb hd
                    replace hb := hb.nil
                    have hz := hb.size
                    (try simp only [World.size_alloc, World.size_setCell] at hz)
                    have hz0 : w.heap.size < wx.heap.size := by omega
                    have hz1 : w3.heap.size < wx.heap.size := by omega
                    have hz2 : b < wx.heap.size := by omega
                    obtain ⟨hc, hf⟩ := bcell hb
                    clear hb hz
                    simp [depsE, Region.binds, updE, kindOf, Prp.is, Prp.any] at hd
                    go_simp
                    first | exact ⟨Below.refl _ _, rfl⟩ | rfl
                  apply seq_is (by kernel_rfl)
                  · intro u wx hb hd
                    replace hb := hb.nil
                    have hz := hb.size
                    (try simp only [World.size_alloc, World.size_setCell] at hz)
                    have hz0 : w.heap.size < wx.heap.size := by omega
                    have hz1 : w3.heap.size < wx.heap.size := by omega
                    have hz2 : b < wx.heap.size := by omega
                    obtain ⟨hc, hf⟩ := bcell hb
                    clear hb hz
                    simp [depsE, Region.binds, updE, kindOf, Prp.is, Prp.any] at hd
                    go_simp
                    first | exact ⟨Below.refl _ _, rfl⟩ | rfl
                  apply seq_is (by kernel_rfl)
                  · intro u wx hb hd
                    replace hb := hb.nil
                    have hz := hb.size
                    (try simp only [World.size_alloc, World.size_setCell] at hz)
                    have hz0 : w.heap.size < wx.heap.size := by omega
                    have hz1 : w3.heap.size < wx.heap.size := by omega
                    have hz2 : b < wx.heap.size := by omega
                    obtain ⟨hc, hf⟩ := bcell hb
                    clear hb hz
                    simp [depsE, Region.binds, updE, kindOf, Prp.is, Prp.any] at hd
                    go_simp
                    first | exact ⟨Below.refl _ _, rfl⟩ | rfl
                  refine seq_new (Prp.built 1 #[.string s, .int .i64 CX, .int .i64 CY, .int .i64 rad] 42) (by kernel_rfl) ?_ ?_
                  · intro u wx hb hd
                    replace hb := hb.nil
                    have hz := hb.size
                    (try simp only [World.size_alloc, World.size_setCell] at hz)
                    have hz0 : w.heap.size < wx.heap.size := by omega
                    have hz1 : w3.heap.size < wx.heap.size := by omega
                    have hz2 : b < wx.heap.size := by omega
                    obtain ⟨hc, hf⟩ := bcell hb
                    clear hb hz
                    simp [depsE, Region.binds, updE, kindOf, Prp.is, Prp.any] at hd
                    refine ⟨by simp [Region.wanted], ?_⟩
                    go_simp
                    exact ⟨(Below.refl _ _).alloc (Nat.le_refl _) _, built_new _ _ _ _, fun b hb => .inr (.inl (by simp [Prp.built, Value.ownBlock] at hb; omega))⟩
                  refine seq_new (Prp.liftOf #[.string s, .int .i64 CX, .int .i64 CY, .int .i64 rad] 42) (by kernel_rfl) ?_ ?_
                  · intro u wx hb hd
                    replace hb := hb.nil
                    have hz := hb.size
                    (try simp only [World.size_alloc, World.size_setCell] at hz)
                    have hz0 : w.heap.size < wx.heap.size := by omega
                    have hz1 : w3.heap.size < wx.heap.size := by omega
                    have hz2 : b < wx.heap.size := by omega
                    obtain ⟨hc, hf⟩ := bcell hb
                    clear hb hz
                    simp [depsE, Region.binds, updE, kindOf, Prp.is, Prp.any] at hd
                    refine ⟨by simp [Region.wanted], ?_⟩
                    obtain ⟨g, eg, hg⟩ := hd
                    go_simp
                    exact ⟨Below.refl _ _, ⟨g, rfl, hg⟩, fun b' hb' => .inr (.inr ⟨12, by simp [kindOf], by kernel_rfl, by simp [updE]; show Value.ownBlock (u 12) = some b'; rw [eg]; simp [Prp.liftOf] at hb'; simp [Value.ownBlock, hb']⟩)⟩
                  refine seq_var ⟨14, 15, #[.string ⟨#[]⟩, .slice none 0 0], 31⟩ (by simp) rfl ?_ ?_
                  · intro u wx hb
                    refine ⟨by simp [Region.wanted], ?_⟩
                    go_simp
                    first | done | rfl | exact ⟨rfl, rfl⟩
                  apply seq_sto_new (Prp.liftOf #[.string s, .int .i64 CX, .int .i64 CY, .int .i64 rad] 42) ⟨14, 15, #[.string ⟨#[]⟩, .slice none 0 0], 31⟩ (by simp) rfl (by kernel_rfl) rfl (by kernel_rfl)
                  · intro u wx hb hd
                    replace hb := hb.nil
                    have hz := hb.size
                    (try simp only [World.size_alloc, World.size_setCell] at hz)
                    have hz0 : w.heap.size < wx.heap.size := by omega
                    have hz1 : w3.heap.size < wx.heap.size := by omega
                    have hz2 : b < wx.heap.size := by omega
                    obtain ⟨hc, hf⟩ := bcell hb
                    clear hb hz
                    simp [depsE, Region.binds, updE, kindOf, Prp.is, Prp.any] at hd
                    refine ⟨by simp [Region.wanted], fun b' hub hlb hcells => ?_⟩
                    have hub' : u 14 = .pointer (some ⟨b', 0, none⟩) := hub
                    have hcells' : wx.heap[b']? = some (.cells #[.string ⟨#[]⟩, .slice none 0 0] 31) := hcells
                    obtain ⟨g, eg, hg⟩ := hd.2.1
                    have hne : g ≠ b' := fun e => by subst e; rw [hcells'] at hg; simp at hg
                    have h13 : ∀ c, (Prp.liftOf #[.string s, .int .i64 CX, .int .i64 CY, .int .i64 rad] 42).F (.agg #[.string ⟨#[66, 49]⟩, .slice (some ⟨g, 0, none⟩) 1 1]) c → (Prp.liftOf #[.string s, .int .i64 CX, .int .i64 CY, .int .i64 rad] 42).F (u 13) c := fun c h => by rw [eg]; exact h
                    have H13 := Lib.hid h13
                    have hat := cells_at2 hcells'
                    have HCL := Lib.hid hcells'
                    have HGG := Lib.hid hg
                    clear hcells hcells' hub hg h13
                    go_simp
                    exact ⟨.agg #[.string ⟨#[66, 49]⟩, .slice (some ⟨g, 0, none⟩) 1 1], Stored.c2 HCL.out _ _, ⟨g, rfl, by rw [(Stored.c2 HCL.out _ _).other g hne]; exact HGG.out⟩, fun c hc => .inr ⟨13, by simp [kindOf], by kernel_rfl, by simpa [updE] using H13.out c hc⟩⟩
                  intro u w5 hb hE hV hP
                  replace hb := hb.nil
                  clear hP
                  have e0 : u 0 = _ := endE_get hE 0 (by decide) (by simp [kindOf])
                  have e1 : u 1 = _ := endE_get hE 1 (by decide) (by simp [kindOf])
                  have e2 : u 2 = _ := endE_get hE 2 (by decide) (by simp [kindOf])
                  have e3 : u 3 = _ := endE_get hE 3 (by decide) (by simp [kindOf])
                  have e4 : u 4 = _ := endE_get hE 4 (by decide) (by simp [kindOf])
                  have e5 : u 5 = _ := endE_get hE 5 (by decide) (by simp [kindOf])
                  have e6 : u 6 = _ := endE_get hE 6 (by decide) (by simp [kindOf])
                  have e7 : u 7 = _ := endE_get hE 7 (by decide) (by simp [kindOf])
                  have e8 : u 8 = _ := endE_get hE 8 (by decide) (by simp [kindOf])
                  have e9 : u 9 = _ := endE_get hE 9 (by decide) (by simp [kindOf])
                  have e10 : u 10 = _ := endE_get hE 10 (by decide) (by simp [kindOf])
                  have e11 : u 11 = _ := endE_get hE 11 (by decide) (by simp [kindOf])
                  obtain ⟨g12, e12, q12⟩ : ∃ g : Nat, u 12 = .slice (some ⟨g, 0, none⟩) 1 1 ∧ w5.heap[g]? = some (.cells #[.string s, .int .i64 CX, .int .i64 CY, .int .i64 rad] 42) := endE_get hE 12 (by decide) (by simp [kindOf])
                  obtain ⟨g15, e15, hg15⟩ : ∃ g : Nat, u 15 = .agg #[.string ⟨#[66, 49]⟩, .slice (some ⟨g, 0, none⟩) 1 1] ∧ w5.heap[g]? = some (.cells #[.string s, .int .i64 CX, .int .i64 CY, .int .i64 rad] 42) := endE_get hE 15 (by decide) (by simp [kindOf])
                  obtain ⟨⟨V0, pv0, lv0, qv0⟩, -, -⟩ := hV
                  replace qv0 : w5.heap[V0]? = some (.cells (u 15).cells 31) := qv0
                  rw [e15] at qv0
                  replace pv0 : u 14 = .pointer (some ⟨V0, 0, none⟩) := pv0
                  obtain ⟨mV00, mV01, mfV0, msV0⟩ := cells_at2 qv0
                  have HQV0 := Lib.hid qv0
                  clear qv0
                  (try simp only [World.size_alloc, World.size_setCell] at lv0)
                  have dV0w50 : V0 ≠ w.heap.size := by omega
                  have dV0w51 : V0 ≠ w3.heap.size := by omega
                  have dV0w52 : V0 ≠ b := by omega
                  (try have lbV0 : w.heap.size ≤ V0 := by omega)
                  clear lv0
                  simp only [List.drop_succ_cons, List.drop_zero, List.take_succ_cons, List.take_zero, fillL, Act.put, List.setIfInBounds_toArray, List.set_cons_zero, List.set_cons_succ, e0, e1, e2, e3, e4, e5, e6, e7, e8, e9, e10, e11, e12, e15, pv0]
                  clear e0 e1 e2 e3 e4 e5 e6 e7 e8 e9 e10 e11 e12 e15 pv0 hE
                  have HBWw5 := Lib.hid hb
                  have hw5 := below_step (w := w) (by first | assumption | go_grown) hb
                  have hzw5 := hb.size
                  (try simp only [World.size_alloc, World.size_setCell] at hzw5)
                  have hzw50 : w.heap.size < w5.heap.size := by omega
                  have hzw51 : w3.heap.size < w5.heap.size := by omega
                  have hzw52 : b < w5.heap.size := by omega
                  have HHw5 := Lib.hid hb.block
                  obtain ⟨hcw5, hfw5⟩ := bcell hb
                  clear hb hzw5
                  have Hw5 := Lib.hid hw5
                  go_wp2_with fail
                  (go_at_call 18; refine (lift_any ⟨#[66, 49]⟩ _ 1 (fun _ => s) (fun _ => CX) (fun _ => CY) (fun _ => rad) m x y z v _ nc nm _ rn rr qq _ (by decide) (HM.out.below Hw5.out) (hooks_one hss hg15) (HC.out.below Hw5.out) HSM.out).mono ?_; rintro e w6 ⟨rfl, hb⟩)
                  rw [HA.out]
                  have HB6 : Hid (Below w4.heap.size w4 w6) := below_step (below_step HBi.out HBWw5.out) hb
                  clear hb
                  by_cases hq : G ≤ LD
                  · rw [if_pos hq, decide_eq_true hq]
                    clear hq
                    go_wp2
                    go_roundw
                    case rel => exact ⟨j + 1, by omega, by go_num, HB6.out⟩
                    case measure => simp [intOf]; omega
                  · rw [if_neg hq, decide_eq_false hq]
                    clear hq
                    go_wp2
                    go_roundw
                    case rel => exact ⟨j + 1, by omega, by go_num, HB6.out⟩
                    case measure => simp [intOf]; omega
            · have q9 : decide ((nl : Int) ≤ (nc : Int)) = true := decide_eq_true (by omega)
              have HB5 := Lib.hid (below_step HB4.out HBo.out)
              go_wp2_with fail
              (go_at_call 13; refine (awake_any _ (HM.out.below HB5.out)).mono ?_; rintro e w6 ⟨rfl, hb⟩)
              have HB6 := Lib.hid (below_step HB5.out hb)
              clear hb
              go_wp2
              go_returns
              exact ⟨rfl, HB6.out⟩
        · have HIN := Lib.hid hin
          clear hin hCX hCY hCZ hGE hwok hm0
          by_cases r0 : CX < -524288
          · go_enter Tryd.func10, Tryd.ntmps10
            go_wp2_with fail
            (go_at_call 17; refine (light_any _ _ _ _ _ _ _ _ (HC.out.below ((Below.refl w.heap.size w).alloc (Nat.le_refl _) _))).mono ?_; rintro e w1 ⟨rfl, hb⟩)
            rw [HLB.out]
            have hs1 := hb.size
            (try simp only [World.size_alloc] at hs1)
            have z10 : w.heap.size < w1.heap.size := by omega
            have c01 : w1.cell? ⟨w.heap.size, 0, none⟩ = some (.int .i64 m) := (hb.cell (p := ⟨_, _, none⟩) (by simp <;> omega)).trans (by simp [go_sem])
            have c11 : w1.cell? ⟨w.heap.size, 1, none⟩ = some (.int .i64 x) := (hb.cell (p := ⟨_, _, none⟩) (by simp <;> omega)).trans (by simp [go_sem])
            have c21 : w1.cell? ⟨w.heap.size, 2, none⟩ = some (.int .i64 y) := (hb.cell (p := ⟨_, _, none⟩) (by simp <;> omega)).trans (by simp [go_sem])
            have c31 : w1.cell? ⟨w.heap.size, 3, none⟩ = some (.int .i64 z) := (hb.cell (p := ⟨_, _, none⟩) (by simp <;> omega)).trans (by simp [go_sem])
            have c41 : w1.cell? ⟨w.heap.size, 4, none⟩ = some (.int .i64 v) := (hb.cell (p := ⟨_, _, none⟩) (by simp <;> omega)).trans (by simp [go_sem])
            have HB1 : Hid (Below w.heap.size w w1) := by
              show Below _ _ _
              exact below_step (w := w) (by go_grown) hb
            clear hb hs1
            go_wp2_with fail
            (go_at_call 26; refine (check_any _ _ _ _ _ _ _ _ (HC.out.below HB1.out)).mono ?_; rintro e w2 ⟨rfl, hb⟩)
            rw [HK.out]
            have hs2 := hb.size
            (try simp only [World.size_alloc] at hs2)
            have z20 : w.heap.size < w2.heap.size := by omega
            have c02 : w2.cell? ⟨w.heap.size, 0, none⟩ = some (.int .i64 m) := (hb.cell (p := ⟨_, _, none⟩) z10).trans c01
            have c12 : w2.cell? ⟨w.heap.size, 1, none⟩ = some (.int .i64 x) := (hb.cell (p := ⟨_, _, none⟩) z10).trans c11
            have c22 : w2.cell? ⟨w.heap.size, 2, none⟩ = some (.int .i64 y) := (hb.cell (p := ⟨_, _, none⟩) z10).trans c21
            have c32 : w2.cell? ⟨w.heap.size, 3, none⟩ = some (.int .i64 z) := (hb.cell (p := ⟨_, _, none⟩) z10).trans c31
            have c42 : w2.cell? ⟨w.heap.size, 4, none⟩ = some (.int .i64 v) := (hb.cell (p := ⟨_, _, none⟩) z10).trans c41
            have HB2 : Hid (Below w.heap.size w w2) := by
              show Below _ _ _
              exact below_step HB1.out hb
            clear hb hs2
            clear c01 c11 c21 c31 c41
            go_wp2_with fail
            (go_at_call 25; refine (rounded_any _ _ _ _ _ _).mono ?_; rintro e w3 ⟨rfl, hb⟩)
            rw [HV.out]
            have hs3 := hb.size
            (try simp only [World.size_alloc] at hs3)
            have z30 : w.heap.size < w3.heap.size := by omega
            have c03 : w3.cell? ⟨w.heap.size, 0, none⟩ = some (.int .i64 m) := (hb.cell (p := ⟨_, _, none⟩) z20).trans c02
            have c13 : w3.cell? ⟨w.heap.size, 1, none⟩ = some (.int .i64 x) := (hb.cell (p := ⟨_, _, none⟩) z20).trans c12
            have c23 : w3.cell? ⟨w.heap.size, 2, none⟩ = some (.int .i64 y) := (hb.cell (p := ⟨_, _, none⟩) z20).trans c22
            have c33 : w3.cell? ⟨w.heap.size, 3, none⟩ = some (.int .i64 z) := (hb.cell (p := ⟨_, _, none⟩) z20).trans c32
            have c43 : w3.cell? ⟨w.heap.size, 4, none⟩ = some (.int .i64 v) := (hb.cell (p := ⟨_, _, none⟩) z20).trans c42
            have HB3 : Hid (Below w.heap.size w w3) := by
              show Below _ _ _
              exact below_step HB2.out hb
            clear hb hs3
            clear c02 c12 c22 c32 c42
            have HBa : Hid (Below w.heap.size w (w3.alloc (.cells #[.int .i64 CX, .int .i64 CY, .int .i64 CZ] 57))) := HB3.out.alloc HB3.out.size _
            go_wp2_with fail
            (go_at_call 21; refine (opt_any _ nc nm _ rn rr qq rad m x y z v _ hnc (HC.out.below HBa.out)).mono ?_; rintro e w4 ⟨lv, rfl, hov, hb⟩)
            obtain ⟨oo, oc, rfl, -, -⟩ := hov.form
            have hs4 := hb.size
            (try simp only [World.size_alloc] at hs4)
            have z40 : w.heap.size < w4.heap.size := by omega
            have z41 : w3.heap.size < w4.heap.size := by omega
            have n43 : w.heap.size ≠ w3.heap.size := by omega
            have c04 : w4.cell? ⟨w.heap.size, 0, none⟩ = some (.int .i64 m) := (hb.cell (p := ⟨_, _, none⟩) (by simp <;> omega)).trans ((World.cell?_alloc_lt _ _ _ z30).trans c03)
            have c14 : w4.cell? ⟨w.heap.size, 1, none⟩ = some (.int .i64 x) := (hb.cell (p := ⟨_, _, none⟩) (by simp <;> omega)).trans ((World.cell?_alloc_lt _ _ _ z30).trans c13)
            have c24 : w4.cell? ⟨w.heap.size, 2, none⟩ = some (.int .i64 y) := (hb.cell (p := ⟨_, _, none⟩) (by simp <;> omega)).trans ((World.cell?_alloc_lt _ _ _ z30).trans c23)
            have c34 : w4.cell? ⟨w.heap.size, 3, none⟩ = some (.int .i64 z) := (hb.cell (p := ⟨_, _, none⟩) (by simp <;> omega)).trans ((World.cell?_alloc_lt _ _ _ z30).trans c33)
            have c44 : w4.cell? ⟨w.heap.size, 4, none⟩ = some (.int .i64 v) := (hb.cell (p := ⟨_, _, none⟩) (by simp <;> omega)).trans ((World.cell?_alloc_lt _ _ _ z30).trans c43)
            have v04 : w4.cell? ⟨w3.heap.size, 0, none⟩ = some (.int .i64 CX) := (hb.cell (p := ⟨_, _, none⟩) (by simp)).trans (by simp [go_sem])
            have v14 : w4.cell? ⟨w3.heap.size, 1, none⟩ = some (.int .i64 CY) := (hb.cell (p := ⟨_, _, none⟩) (by simp)).trans (by simp [go_sem])
            have HB4 := Lib.hid (below_step HBa.out hb)
            clear hb hs4 c03 c13 c23 c33 c43
            clear hov
            go_wp2_with fail
            (go_at_call 13; refine (awake_any _ (HM.out.below HB4.out)).mono ?_; rintro e w5 ⟨rfl, hb⟩)
            have HB5 := Lib.hid (below_step HB4.out hb)
            clear hb
            go_wp2
            go_returns
            exact ⟨rfl, HB5.out⟩
          · have g0 : -524288 ≤ CX := by omega
            clear r0
            by_cases r1 : 524288 < CX
            · go_enter Tryd.func10, Tryd.ntmps10
              go_wp2_with fail
              (go_at_call 17; refine (light_any _ _ _ _ _ _ _ _ (HC.out.below ((Below.refl w.heap.size w).alloc (Nat.le_refl _) _))).mono ?_; rintro e w1 ⟨rfl, hb⟩)
              rw [HLB.out]
              have hs1 := hb.size
              (try simp only [World.size_alloc] at hs1)
              have z10 : w.heap.size < w1.heap.size := by omega
              have c01 : w1.cell? ⟨w.heap.size, 0, none⟩ = some (.int .i64 m) := (hb.cell (p := ⟨_, _, none⟩) (by simp <;> omega)).trans (by simp [go_sem])
              have c11 : w1.cell? ⟨w.heap.size, 1, none⟩ = some (.int .i64 x) := (hb.cell (p := ⟨_, _, none⟩) (by simp <;> omega)).trans (by simp [go_sem])
              have c21 : w1.cell? ⟨w.heap.size, 2, none⟩ = some (.int .i64 y) := (hb.cell (p := ⟨_, _, none⟩) (by simp <;> omega)).trans (by simp [go_sem])
              have c31 : w1.cell? ⟨w.heap.size, 3, none⟩ = some (.int .i64 z) := (hb.cell (p := ⟨_, _, none⟩) (by simp <;> omega)).trans (by simp [go_sem])
              have c41 : w1.cell? ⟨w.heap.size, 4, none⟩ = some (.int .i64 v) := (hb.cell (p := ⟨_, _, none⟩) (by simp <;> omega)).trans (by simp [go_sem])
              have HB1 : Hid (Below w.heap.size w w1) := by
                show Below _ _ _
                exact below_step (w := w) (by go_grown) hb
              clear hb hs1
              go_wp2_with fail
              (go_at_call 26; refine (check_any _ _ _ _ _ _ _ _ (HC.out.below HB1.out)).mono ?_; rintro e w2 ⟨rfl, hb⟩)
              rw [HK.out]
              have hs2 := hb.size
              (try simp only [World.size_alloc] at hs2)
              have z20 : w.heap.size < w2.heap.size := by omega
              have c02 : w2.cell? ⟨w.heap.size, 0, none⟩ = some (.int .i64 m) := (hb.cell (p := ⟨_, _, none⟩) z10).trans c01
              have c12 : w2.cell? ⟨w.heap.size, 1, none⟩ = some (.int .i64 x) := (hb.cell (p := ⟨_, _, none⟩) z10).trans c11
              have c22 : w2.cell? ⟨w.heap.size, 2, none⟩ = some (.int .i64 y) := (hb.cell (p := ⟨_, _, none⟩) z10).trans c21
              have c32 : w2.cell? ⟨w.heap.size, 3, none⟩ = some (.int .i64 z) := (hb.cell (p := ⟨_, _, none⟩) z10).trans c31
              have c42 : w2.cell? ⟨w.heap.size, 4, none⟩ = some (.int .i64 v) := (hb.cell (p := ⟨_, _, none⟩) z10).trans c41
              have HB2 : Hid (Below w.heap.size w w2) := by
                show Below _ _ _
                exact below_step HB1.out hb
              clear hb hs2
              clear c01 c11 c21 c31 c41
              go_wp2_with fail
              (go_at_call 25; refine (rounded_any _ _ _ _ _ _).mono ?_; rintro e w3 ⟨rfl, hb⟩)
              rw [HV.out]
              have hs3 := hb.size
              (try simp only [World.size_alloc] at hs3)
              have z30 : w.heap.size < w3.heap.size := by omega
              have c03 : w3.cell? ⟨w.heap.size, 0, none⟩ = some (.int .i64 m) := (hb.cell (p := ⟨_, _, none⟩) z20).trans c02
              have c13 : w3.cell? ⟨w.heap.size, 1, none⟩ = some (.int .i64 x) := (hb.cell (p := ⟨_, _, none⟩) z20).trans c12
              have c23 : w3.cell? ⟨w.heap.size, 2, none⟩ = some (.int .i64 y) := (hb.cell (p := ⟨_, _, none⟩) z20).trans c22
              have c33 : w3.cell? ⟨w.heap.size, 3, none⟩ = some (.int .i64 z) := (hb.cell (p := ⟨_, _, none⟩) z20).trans c32
              have c43 : w3.cell? ⟨w.heap.size, 4, none⟩ = some (.int .i64 v) := (hb.cell (p := ⟨_, _, none⟩) z20).trans c42
              have HB3 : Hid (Below w.heap.size w w3) := by
                show Below _ _ _
                exact below_step HB2.out hb
              clear hb hs3
              clear c02 c12 c22 c32 c42
              have HBa : Hid (Below w.heap.size w (w3.alloc (.cells #[.int .i64 CX, .int .i64 CY, .int .i64 CZ] 57))) := HB3.out.alloc HB3.out.size _
              go_wp2_with fail
              (go_at_call 21; refine (opt_any _ nc nm _ rn rr qq rad m x y z v _ hnc (HC.out.below HBa.out)).mono ?_; rintro e w4 ⟨lv, rfl, hov, hb⟩)
              obtain ⟨oo, oc, rfl, -, -⟩ := hov.form
              have hs4 := hb.size
              (try simp only [World.size_alloc] at hs4)
              have z40 : w.heap.size < w4.heap.size := by omega
              have z41 : w3.heap.size < w4.heap.size := by omega
              have n43 : w.heap.size ≠ w3.heap.size := by omega
              have c04 : w4.cell? ⟨w.heap.size, 0, none⟩ = some (.int .i64 m) := (hb.cell (p := ⟨_, _, none⟩) (by simp <;> omega)).trans ((World.cell?_alloc_lt _ _ _ z30).trans c03)
              have c14 : w4.cell? ⟨w.heap.size, 1, none⟩ = some (.int .i64 x) := (hb.cell (p := ⟨_, _, none⟩) (by simp <;> omega)).trans ((World.cell?_alloc_lt _ _ _ z30).trans c13)
              have c24 : w4.cell? ⟨w.heap.size, 2, none⟩ = some (.int .i64 y) := (hb.cell (p := ⟨_, _, none⟩) (by simp <;> omega)).trans ((World.cell?_alloc_lt _ _ _ z30).trans c23)
              have c34 : w4.cell? ⟨w.heap.size, 3, none⟩ = some (.int .i64 z) := (hb.cell (p := ⟨_, _, none⟩) (by simp <;> omega)).trans ((World.cell?_alloc_lt _ _ _ z30).trans c33)
              have c44 : w4.cell? ⟨w.heap.size, 4, none⟩ = some (.int .i64 v) := (hb.cell (p := ⟨_, _, none⟩) (by simp <;> omega)).trans ((World.cell?_alloc_lt _ _ _ z30).trans c43)
              have v04 : w4.cell? ⟨w3.heap.size, 0, none⟩ = some (.int .i64 CX) := (hb.cell (p := ⟨_, _, none⟩) (by simp)).trans (by simp [go_sem])
              have v14 : w4.cell? ⟨w3.heap.size, 1, none⟩ = some (.int .i64 CY) := (hb.cell (p := ⟨_, _, none⟩) (by simp)).trans (by simp [go_sem])
              have HB4 := Lib.hid (below_step HBa.out hb)
              clear hb hs4 c03 c13 c23 c33 c43
              clear hov
              go_wp2_with fail
              (go_at_call 13; refine (awake_any _ (HM.out.below HB4.out)).mono ?_; rintro e w5 ⟨rfl, hb⟩)
              have HB5 := Lib.hid (below_step HB4.out hb)
              clear hb
              go_wp2
              go_returns
              exact ⟨rfl, HB5.out⟩
            · have g1 : CX ≤ 524288 := by omega
              clear r1
              by_cases r2 : CY < -524288
              · go_enter Tryd.func10, Tryd.ntmps10
                go_wp2_with fail
                (go_at_call 17; refine (light_any _ _ _ _ _ _ _ _ (HC.out.below ((Below.refl w.heap.size w).alloc (Nat.le_refl _) _))).mono ?_; rintro e w1 ⟨rfl, hb⟩)
                rw [HLB.out]
                have hs1 := hb.size
                (try simp only [World.size_alloc] at hs1)
                have z10 : w.heap.size < w1.heap.size := by omega
                have c01 : w1.cell? ⟨w.heap.size, 0, none⟩ = some (.int .i64 m) := (hb.cell (p := ⟨_, _, none⟩) (by simp <;> omega)).trans (by simp [go_sem])
                have c11 : w1.cell? ⟨w.heap.size, 1, none⟩ = some (.int .i64 x) := (hb.cell (p := ⟨_, _, none⟩) (by simp <;> omega)).trans (by simp [go_sem])
                have c21 : w1.cell? ⟨w.heap.size, 2, none⟩ = some (.int .i64 y) := (hb.cell (p := ⟨_, _, none⟩) (by simp <;> omega)).trans (by simp [go_sem])
                have c31 : w1.cell? ⟨w.heap.size, 3, none⟩ = some (.int .i64 z) := (hb.cell (p := ⟨_, _, none⟩) (by simp <;> omega)).trans (by simp [go_sem])
                have c41 : w1.cell? ⟨w.heap.size, 4, none⟩ = some (.int .i64 v) := (hb.cell (p := ⟨_, _, none⟩) (by simp <;> omega)).trans (by simp [go_sem])
                have HB1 : Hid (Below w.heap.size w w1) := by
                  show Below _ _ _
                  exact below_step (w := w) (by go_grown) hb
                clear hb hs1
                go_wp2_with fail
                (go_at_call 26; refine (check_any _ _ _ _ _ _ _ _ (HC.out.below HB1.out)).mono ?_; rintro e w2 ⟨rfl, hb⟩)
                rw [HK.out]
                have hs2 := hb.size
                (try simp only [World.size_alloc] at hs2)
                have z20 : w.heap.size < w2.heap.size := by omega
                have c02 : w2.cell? ⟨w.heap.size, 0, none⟩ = some (.int .i64 m) := (hb.cell (p := ⟨_, _, none⟩) z10).trans c01
                have c12 : w2.cell? ⟨w.heap.size, 1, none⟩ = some (.int .i64 x) := (hb.cell (p := ⟨_, _, none⟩) z10).trans c11
                have c22 : w2.cell? ⟨w.heap.size, 2, none⟩ = some (.int .i64 y) := (hb.cell (p := ⟨_, _, none⟩) z10).trans c21
                have c32 : w2.cell? ⟨w.heap.size, 3, none⟩ = some (.int .i64 z) := (hb.cell (p := ⟨_, _, none⟩) z10).trans c31
                have c42 : w2.cell? ⟨w.heap.size, 4, none⟩ = some (.int .i64 v) := (hb.cell (p := ⟨_, _, none⟩) z10).trans c41
                have HB2 : Hid (Below w.heap.size w w2) := by
                  show Below _ _ _
                  exact below_step HB1.out hb
                clear hb hs2
                clear c01 c11 c21 c31 c41
                go_wp2_with fail
                (go_at_call 25; refine (rounded_any _ _ _ _ _ _).mono ?_; rintro e w3 ⟨rfl, hb⟩)
                rw [HV.out]
                have hs3 := hb.size
                (try simp only [World.size_alloc] at hs3)
                have z30 : w.heap.size < w3.heap.size := by omega
                have c03 : w3.cell? ⟨w.heap.size, 0, none⟩ = some (.int .i64 m) := (hb.cell (p := ⟨_, _, none⟩) z20).trans c02
                have c13 : w3.cell? ⟨w.heap.size, 1, none⟩ = some (.int .i64 x) := (hb.cell (p := ⟨_, _, none⟩) z20).trans c12
                have c23 : w3.cell? ⟨w.heap.size, 2, none⟩ = some (.int .i64 y) := (hb.cell (p := ⟨_, _, none⟩) z20).trans c22
                have c33 : w3.cell? ⟨w.heap.size, 3, none⟩ = some (.int .i64 z) := (hb.cell (p := ⟨_, _, none⟩) z20).trans c32
                have c43 : w3.cell? ⟨w.heap.size, 4, none⟩ = some (.int .i64 v) := (hb.cell (p := ⟨_, _, none⟩) z20).trans c42
                have HB3 : Hid (Below w.heap.size w w3) := by
                  show Below _ _ _
                  exact below_step HB2.out hb
                clear hb hs3
                clear c02 c12 c22 c32 c42
                have HBa : Hid (Below w.heap.size w (w3.alloc (.cells #[.int .i64 CX, .int .i64 CY, .int .i64 CZ] 57))) := HB3.out.alloc HB3.out.size _
                go_wp2_with fail
                (go_at_call 21; refine (opt_any _ nc nm _ rn rr qq rad m x y z v _ hnc (HC.out.below HBa.out)).mono ?_; rintro e w4 ⟨lv, rfl, hov, hb⟩)
                obtain ⟨oo, oc, rfl, -, -⟩ := hov.form
                have hs4 := hb.size
                (try simp only [World.size_alloc] at hs4)
                have z40 : w.heap.size < w4.heap.size := by omega
                have z41 : w3.heap.size < w4.heap.size := by omega
                have n43 : w.heap.size ≠ w3.heap.size := by omega
                have c04 : w4.cell? ⟨w.heap.size, 0, none⟩ = some (.int .i64 m) := (hb.cell (p := ⟨_, _, none⟩) (by simp <;> omega)).trans ((World.cell?_alloc_lt _ _ _ z30).trans c03)
                have c14 : w4.cell? ⟨w.heap.size, 1, none⟩ = some (.int .i64 x) := (hb.cell (p := ⟨_, _, none⟩) (by simp <;> omega)).trans ((World.cell?_alloc_lt _ _ _ z30).trans c13)
                have c24 : w4.cell? ⟨w.heap.size, 2, none⟩ = some (.int .i64 y) := (hb.cell (p := ⟨_, _, none⟩) (by simp <;> omega)).trans ((World.cell?_alloc_lt _ _ _ z30).trans c23)
                have c34 : w4.cell? ⟨w.heap.size, 3, none⟩ = some (.int .i64 z) := (hb.cell (p := ⟨_, _, none⟩) (by simp <;> omega)).trans ((World.cell?_alloc_lt _ _ _ z30).trans c33)
                have c44 : w4.cell? ⟨w.heap.size, 4, none⟩ = some (.int .i64 v) := (hb.cell (p := ⟨_, _, none⟩) (by simp <;> omega)).trans ((World.cell?_alloc_lt _ _ _ z30).trans c43)
                have v04 : w4.cell? ⟨w3.heap.size, 0, none⟩ = some (.int .i64 CX) := (hb.cell (p := ⟨_, _, none⟩) (by simp)).trans (by simp [go_sem])
                have v14 : w4.cell? ⟨w3.heap.size, 1, none⟩ = some (.int .i64 CY) := (hb.cell (p := ⟨_, _, none⟩) (by simp)).trans (by simp [go_sem])
                have HB4 := Lib.hid (below_step HBa.out hb)
                clear hb hs4 c03 c13 c23 c33 c43
                clear hov
                go_wp2_with fail
                (go_at_call 13; refine (awake_any _ (HM.out.below HB4.out)).mono ?_; rintro e w5 ⟨rfl, hb⟩)
                have HB5 := Lib.hid (below_step HB4.out hb)
                clear hb
                go_wp2
                go_returns
                exact ⟨rfl, HB5.out⟩
              · have g2 : -524288 ≤ CY := by omega
                clear r2
                by_cases r3 : 524288 < CY
                · go_enter Tryd.func10, Tryd.ntmps10
                  go_wp2_with fail
                  (go_at_call 17; refine (light_any _ _ _ _ _ _ _ _ (HC.out.below ((Below.refl w.heap.size w).alloc (Nat.le_refl _) _))).mono ?_; rintro e w1 ⟨rfl, hb⟩)
                  rw [HLB.out]
                  have hs1 := hb.size
                  (try simp only [World.size_alloc] at hs1)
                  have z10 : w.heap.size < w1.heap.size := by omega
                  have c01 : w1.cell? ⟨w.heap.size, 0, none⟩ = some (.int .i64 m) := (hb.cell (p := ⟨_, _, none⟩) (by simp <;> omega)).trans (by simp [go_sem])
                  have c11 : w1.cell? ⟨w.heap.size, 1, none⟩ = some (.int .i64 x) := (hb.cell (p := ⟨_, _, none⟩) (by simp <;> omega)).trans (by simp [go_sem])
                  have c21 : w1.cell? ⟨w.heap.size, 2, none⟩ = some (.int .i64 y) := (hb.cell (p := ⟨_, _, none⟩) (by simp <;> omega)).trans (by simp [go_sem])
                  have c31 : w1.cell? ⟨w.heap.size, 3, none⟩ = some (.int .i64 z) := (hb.cell (p := ⟨_, _, none⟩) (by simp <;> omega)).trans (by simp [go_sem])
                  have c41 : w1.cell? ⟨w.heap.size, 4, none⟩ = some (.int .i64 v) := (hb.cell (p := ⟨_, _, none⟩) (by simp <;> omega)).trans (by simp [go_sem])
                  have HB1 : Hid (Below w.heap.size w w1) := by
                    show Below _ _ _
                    exact below_step (w := w) (by go_grown) hb
                  clear hb hs1
                  go_wp2_with fail
                  (go_at_call 26; refine (check_any _ _ _ _ _ _ _ _ (HC.out.below HB1.out)).mono ?_; rintro e w2 ⟨rfl, hb⟩)
                  rw [HK.out]
                  have hs2 := hb.size
                  (try simp only [World.size_alloc] at hs2)
                  have z20 : w.heap.size < w2.heap.size := by omega
                  have c02 : w2.cell? ⟨w.heap.size, 0, none⟩ = some (.int .i64 m) := (hb.cell (p := ⟨_, _, none⟩) z10).trans c01
                  have c12 : w2.cell? ⟨w.heap.size, 1, none⟩ = some (.int .i64 x) := (hb.cell (p := ⟨_, _, none⟩) z10).trans c11
                  have c22 : w2.cell? ⟨w.heap.size, 2, none⟩ = some (.int .i64 y) := (hb.cell (p := ⟨_, _, none⟩) z10).trans c21
                  have c32 : w2.cell? ⟨w.heap.size, 3, none⟩ = some (.int .i64 z) := (hb.cell (p := ⟨_, _, none⟩) z10).trans c31
                  have c42 : w2.cell? ⟨w.heap.size, 4, none⟩ = some (.int .i64 v) := (hb.cell (p := ⟨_, _, none⟩) z10).trans c41
                  have HB2 : Hid (Below w.heap.size w w2) := by
                    show Below _ _ _
                    exact below_step HB1.out hb
                  clear hb hs2
                  clear c01 c11 c21 c31 c41
                  go_wp2_with fail
                  (go_at_call 25; refine (rounded_any _ _ _ _ _ _).mono ?_; rintro e w3 ⟨rfl, hb⟩)
                  rw [HV.out]
                  have hs3 := hb.size
                  (try simp only [World.size_alloc] at hs3)
                  have z30 : w.heap.size < w3.heap.size := by omega
                  have c03 : w3.cell? ⟨w.heap.size, 0, none⟩ = some (.int .i64 m) := (hb.cell (p := ⟨_, _, none⟩) z20).trans c02
                  have c13 : w3.cell? ⟨w.heap.size, 1, none⟩ = some (.int .i64 x) := (hb.cell (p := ⟨_, _, none⟩) z20).trans c12
                  have c23 : w3.cell? ⟨w.heap.size, 2, none⟩ = some (.int .i64 y) := (hb.cell (p := ⟨_, _, none⟩) z20).trans c22
                  have c33 : w3.cell? ⟨w.heap.size, 3, none⟩ = some (.int .i64 z) := (hb.cell (p := ⟨_, _, none⟩) z20).trans c32
                  have c43 : w3.cell? ⟨w.heap.size, 4, none⟩ = some (.int .i64 v) := (hb.cell (p := ⟨_, _, none⟩) z20).trans c42
                  have HB3 : Hid (Below w.heap.size w w3) := by
                    show Below _ _ _
                    exact below_step HB2.out hb
                  clear hb hs3
                  clear c02 c12 c22 c32 c42
                  have HBa : Hid (Below w.heap.size w (w3.alloc (.cells #[.int .i64 CX, .int .i64 CY, .int .i64 CZ] 57))) := HB3.out.alloc HB3.out.size _
                  go_wp2_with fail
                  (go_at_call 21; refine (opt_any _ nc nm _ rn rr qq rad m x y z v _ hnc (HC.out.below HBa.out)).mono ?_; rintro e w4 ⟨lv, rfl, hov, hb⟩)
                  obtain ⟨oo, oc, rfl, -, -⟩ := hov.form
                  have hs4 := hb.size
                  (try simp only [World.size_alloc] at hs4)
                  have z40 : w.heap.size < w4.heap.size := by omega
                  have z41 : w3.heap.size < w4.heap.size := by omega
                  have n43 : w.heap.size ≠ w3.heap.size := by omega
                  have c04 : w4.cell? ⟨w.heap.size, 0, none⟩ = some (.int .i64 m) := (hb.cell (p := ⟨_, _, none⟩) (by simp <;> omega)).trans ((World.cell?_alloc_lt _ _ _ z30).trans c03)
                  have c14 : w4.cell? ⟨w.heap.size, 1, none⟩ = some (.int .i64 x) := (hb.cell (p := ⟨_, _, none⟩) (by simp <;> omega)).trans ((World.cell?_alloc_lt _ _ _ z30).trans c13)
                  have c24 : w4.cell? ⟨w.heap.size, 2, none⟩ = some (.int .i64 y) := (hb.cell (p := ⟨_, _, none⟩) (by simp <;> omega)).trans ((World.cell?_alloc_lt _ _ _ z30).trans c23)
                  have c34 : w4.cell? ⟨w.heap.size, 3, none⟩ = some (.int .i64 z) := (hb.cell (p := ⟨_, _, none⟩) (by simp <;> omega)).trans ((World.cell?_alloc_lt _ _ _ z30).trans c33)
                  have c44 : w4.cell? ⟨w.heap.size, 4, none⟩ = some (.int .i64 v) := (hb.cell (p := ⟨_, _, none⟩) (by simp <;> omega)).trans ((World.cell?_alloc_lt _ _ _ z30).trans c43)
                  have v04 : w4.cell? ⟨w3.heap.size, 0, none⟩ = some (.int .i64 CX) := (hb.cell (p := ⟨_, _, none⟩) (by simp)).trans (by simp [go_sem])
                  have v14 : w4.cell? ⟨w3.heap.size, 1, none⟩ = some (.int .i64 CY) := (hb.cell (p := ⟨_, _, none⟩) (by simp)).trans (by simp [go_sem])
                  have HB4 := Lib.hid (below_step HBa.out hb)
                  clear hb hs4 c03 c13 c23 c33 c43
                  clear hov
                  go_wp2_with fail
                  (go_at_call 13; refine (awake_any _ (HM.out.below HB4.out)).mono ?_; rintro e w5 ⟨rfl, hb⟩)
                  have HB5 := Lib.hid (below_step HB4.out hb)
                  clear hb
                  go_wp2
                  go_returns
                  exact ⟨rfl, HB5.out⟩
                · have g3 : CY ≤ 524288 := by omega
                  clear r3
                  exact absurd ⟨g0, g1, g2, g3⟩ HIN.out
      · obtain ⟨CX, CY, CZ, hV⟩ : ∃ X Y Z : Int, roundedV m x y z v = .tuple #[.agg #[.int .i64 X, .int .i64 Y, .int .i64 Z], .int .i64 D] := by
          unfold roundedV
          rw [hD]
          exact ⟨_, _, _, rfl⟩
        have HV := Lib.hid hV
        have HON := Lib.hid (opt_none (n := nc) (nm := nm) (rn := rn) (r := rr) (q := qq) (rad := rad) (show divF m x y z v ≠ 0 by rw [hD]; exact hd0))
        have k0 : (D != 0) = true := by simpa using hd0
        have k1 : (D == 0) = false := by simpa using hd0
        clear hV hD hd0
        go_enter Tryd.func10, Tryd.ntmps10
        go_wp2_with fail
        (go_at_call 17; refine (light_any _ _ _ _ _ _ _ _ (HC.out.below ((Below.refl w.heap.size w).alloc (Nat.le_refl _) _))).mono ?_; rintro e w1 ⟨rfl, hb⟩)
        rw [HLB.out]
        have hs1 := hb.size
        (try simp only [World.size_alloc] at hs1)
        have z10 : w.heap.size < w1.heap.size := by omega
        have c01 : w1.cell? ⟨w.heap.size, 0, none⟩ = some (.int .i64 m) := (hb.cell (p := ⟨_, _, none⟩) (by simp <;> omega)).trans (by simp [go_sem])
        have c11 : w1.cell? ⟨w.heap.size, 1, none⟩ = some (.int .i64 x) := (hb.cell (p := ⟨_, _, none⟩) (by simp <;> omega)).trans (by simp [go_sem])
        have c21 : w1.cell? ⟨w.heap.size, 2, none⟩ = some (.int .i64 y) := (hb.cell (p := ⟨_, _, none⟩) (by simp <;> omega)).trans (by simp [go_sem])
        have c31 : w1.cell? ⟨w.heap.size, 3, none⟩ = some (.int .i64 z) := (hb.cell (p := ⟨_, _, none⟩) (by simp <;> omega)).trans (by simp [go_sem])
        have c41 : w1.cell? ⟨w.heap.size, 4, none⟩ = some (.int .i64 v) := (hb.cell (p := ⟨_, _, none⟩) (by simp <;> omega)).trans (by simp [go_sem])
        have HB1 : Hid (Below w.heap.size w w1) := by
          show Below _ _ _
          exact below_step (w := w) (by go_grown) hb
        clear hb hs1
        go_wp2_with fail
        (go_at_call 26; refine (check_any _ _ _ _ _ _ _ _ (HC.out.below HB1.out)).mono ?_; rintro e w2 ⟨rfl, hb⟩)
        rw [HK.out]
        have hs2 := hb.size
        (try simp only [World.size_alloc] at hs2)
        have z20 : w.heap.size < w2.heap.size := by omega
        have c02 : w2.cell? ⟨w.heap.size, 0, none⟩ = some (.int .i64 m) := (hb.cell (p := ⟨_, _, none⟩) z10).trans c01
        have c12 : w2.cell? ⟨w.heap.size, 1, none⟩ = some (.int .i64 x) := (hb.cell (p := ⟨_, _, none⟩) z10).trans c11
        have c22 : w2.cell? ⟨w.heap.size, 2, none⟩ = some (.int .i64 y) := (hb.cell (p := ⟨_, _, none⟩) z10).trans c21
        have c32 : w2.cell? ⟨w.heap.size, 3, none⟩ = some (.int .i64 z) := (hb.cell (p := ⟨_, _, none⟩) z10).trans c31
        have c42 : w2.cell? ⟨w.heap.size, 4, none⟩ = some (.int .i64 v) := (hb.cell (p := ⟨_, _, none⟩) z10).trans c41
        have HB2 : Hid (Below w.heap.size w w2) := by
          show Below _ _ _
          exact below_step HB1.out hb
        clear hb hs2
        clear c01 c11 c21 c31 c41
        go_wp2_with fail
        (go_at_call 25; refine (rounded_any _ _ _ _ _ _).mono ?_; rintro e w3 ⟨rfl, hb⟩)
        rw [HV.out]
        have hs3 := hb.size
        (try simp only [World.size_alloc] at hs3)
        have z30 : w.heap.size < w3.heap.size := by omega
        have c03 : w3.cell? ⟨w.heap.size, 0, none⟩ = some (.int .i64 m) := (hb.cell (p := ⟨_, _, none⟩) z20).trans c02
        have c13 : w3.cell? ⟨w.heap.size, 1, none⟩ = some (.int .i64 x) := (hb.cell (p := ⟨_, _, none⟩) z20).trans c12
        have c23 : w3.cell? ⟨w.heap.size, 2, none⟩ = some (.int .i64 y) := (hb.cell (p := ⟨_, _, none⟩) z20).trans c22
        have c33 : w3.cell? ⟨w.heap.size, 3, none⟩ = some (.int .i64 z) := (hb.cell (p := ⟨_, _, none⟩) z20).trans c32
        have c43 : w3.cell? ⟨w.heap.size, 4, none⟩ = some (.int .i64 v) := (hb.cell (p := ⟨_, _, none⟩) z20).trans c42
        have HB3 : Hid (Below w.heap.size w w3) := by
          show Below _ _ _
          exact below_step HB2.out hb
        clear hb hs3
        clear c02 c12 c22 c32 c42
        have HBa : Hid (Below w.heap.size w (w3.alloc (.cells #[.int .i64 CX, .int .i64 CY, .int .i64 CZ] 57))) := HB3.out.alloc HB3.out.size _
        go_wp2_with fail
        (go_at_call 21; refine (opt_any _ nc nm _ rn rr qq rad m x y z v _ hnc (HC.out.below HBa.out)).mono ?_; rintro e w4 ⟨lv, rfl, hov, hb⟩)
        rw [HON.out] at hov
        obtain ⟨oo, oc, rfl, -, -⟩ := hov.form
        have hs4 := hb.size
        (try simp only [World.size_alloc] at hs4)
        have z40 : w.heap.size < w4.heap.size := by omega
        have z41 : w3.heap.size < w4.heap.size := by omega
        have n43 : w.heap.size ≠ w3.heap.size := by omega
        have c04 : w4.cell? ⟨w.heap.size, 0, none⟩ = some (.int .i64 m) := (hb.cell (p := ⟨_, _, none⟩) (by simp <;> omega)).trans ((World.cell?_alloc_lt _ _ _ z30).trans c03)
        have c14 : w4.cell? ⟨w.heap.size, 1, none⟩ = some (.int .i64 x) := (hb.cell (p := ⟨_, _, none⟩) (by simp <;> omega)).trans ((World.cell?_alloc_lt _ _ _ z30).trans c13)
        have c24 : w4.cell? ⟨w.heap.size, 2, none⟩ = some (.int .i64 y) := (hb.cell (p := ⟨_, _, none⟩) (by simp <;> omega)).trans ((World.cell?_alloc_lt _ _ _ z30).trans c23)
        have c34 : w4.cell? ⟨w.heap.size, 3, none⟩ = some (.int .i64 z) := (hb.cell (p := ⟨_, _, none⟩) (by simp <;> omega)).trans ((World.cell?_alloc_lt _ _ _ z30).trans c33)
        have c44 : w4.cell? ⟨w.heap.size, 4, none⟩ = some (.int .i64 v) := (hb.cell (p := ⟨_, _, none⟩) (by simp <;> omega)).trans ((World.cell?_alloc_lt _ _ _ z30).trans c43)
        have v04 : w4.cell? ⟨w3.heap.size, 0, none⟩ = some (.int .i64 CX) := (hb.cell (p := ⟨_, _, none⟩) (by simp)).trans (by simp [go_sem])
        have v14 : w4.cell? ⟨w3.heap.size, 1, none⟩ = some (.int .i64 CY) := (hb.cell (p := ⟨_, _, none⟩) (by simp)).trans (by simp [go_sem])
        have HB4 := Lib.hid (below_step HBa.out hb)
        clear hb hs4 c03 c13 c23 c33 c43
        clear hov
        simp only [List.length_nil]
        go_wp2_with fail
        (go_at_call 13; refine (awake_any _ (HM.out.below HB4.out)).mono ?_; rintro e w5 ⟨rfl, hb⟩)
        have HB5 := Lib.hid (below_step HB4.out hb)
        clear hb
        go_wp2
        go_returns
        exact ⟨rfl, HB5.out⟩
    · have k0 : (K != 0) = true := by simpa using hk0
      clear hk0
      go_enter Tryd.func10, Tryd.ntmps10
      go_wp2_with fail
      (go_at_call 17; refine (light_any _ _ _ _ _ _ _ _ (HC.out.below ((Below.refl w.heap.size w).alloc (Nat.le_refl _) _))).mono ?_; rintro e w1 ⟨rfl, hb⟩)
      rw [HLB.out]
      have hs1 := hb.size
      (try simp only [World.size_alloc] at hs1)
      have z10 : w.heap.size < w1.heap.size := by omega
      have c01 : w1.cell? ⟨w.heap.size, 0, none⟩ = some (.int .i64 m) := (hb.cell (p := ⟨_, _, none⟩) (by simp <;> omega)).trans (by simp [go_sem])
      have c11 : w1.cell? ⟨w.heap.size, 1, none⟩ = some (.int .i64 x) := (hb.cell (p := ⟨_, _, none⟩) (by simp <;> omega)).trans (by simp [go_sem])
      have c21 : w1.cell? ⟨w.heap.size, 2, none⟩ = some (.int .i64 y) := (hb.cell (p := ⟨_, _, none⟩) (by simp <;> omega)).trans (by simp [go_sem])
      have c31 : w1.cell? ⟨w.heap.size, 3, none⟩ = some (.int .i64 z) := (hb.cell (p := ⟨_, _, none⟩) (by simp <;> omega)).trans (by simp [go_sem])
      have c41 : w1.cell? ⟨w.heap.size, 4, none⟩ = some (.int .i64 v) := (hb.cell (p := ⟨_, _, none⟩) (by simp <;> omega)).trans (by simp [go_sem])
      have HB1 : Hid (Below w.heap.size w w1) := by
        show Below _ _ _
        exact below_step (w := w) (by go_grown) hb
      clear hb hs1
      go_wp2_with fail
      (go_at_call 26; refine (check_any _ _ _ _ _ _ _ _ (HC.out.below HB1.out)).mono ?_; rintro e w2 ⟨rfl, hb⟩)
      rw [HK.out]
      have hs2 := hb.size
      (try simp only [World.size_alloc] at hs2)
      have z20 : w.heap.size < w2.heap.size := by omega
      have c02 : w2.cell? ⟨w.heap.size, 0, none⟩ = some (.int .i64 m) := (hb.cell (p := ⟨_, _, none⟩) z10).trans c01
      have c12 : w2.cell? ⟨w.heap.size, 1, none⟩ = some (.int .i64 x) := (hb.cell (p := ⟨_, _, none⟩) z10).trans c11
      have c22 : w2.cell? ⟨w.heap.size, 2, none⟩ = some (.int .i64 y) := (hb.cell (p := ⟨_, _, none⟩) z10).trans c21
      have c32 : w2.cell? ⟨w.heap.size, 3, none⟩ = some (.int .i64 z) := (hb.cell (p := ⟨_, _, none⟩) z10).trans c31
      have c42 : w2.cell? ⟨w.heap.size, 4, none⟩ = some (.int .i64 v) := (hb.cell (p := ⟨_, _, none⟩) z10).trans c41
      have HB2 : Hid (Below w.heap.size w w2) := by
        show Below _ _ _
        exact below_step HB1.out hb
      clear hb hs2
      clear c01 c11 c21 c31 c41
      go_wp2_with fail
      (go_at_call 13; refine (awake_any _ (HM.out.below HB2.out)).mono ?_; rintro e w3 ⟨rfl, hb⟩)
      have HB3 := Lib.hid (below_step HB2.out hb)
      clear hb
      go_wp2
      go_returns
      exact ⟨rfl, HB3.out⟩

set_option maxRecDepth 100000 in
theorem liftAbove_contract (H : Type) (enc : TypeId × Value → H) (W : World) (base : Nat) (args : Array Value) (ds gs : List (DataW H)) (before : List MemPlace)
    (hval : ∀ (j : Nat) t v, Tryd.f10.params[j]? = some t → args[j]? = some v → Value.okWide Tryd.prog W .any base t v)
    (hW : DataW.Whole enc Tryd.prog Tryd.f10.params.toList Rows.liftAboveSpec.vars false W args.toList ds gs before) (hL : laidMetH Tryd.prog Rows.liftAboveRow.laid W) (hSh : W.ShapedOpen Tryd.prog) :
    Calls Tryd.prog 10 args W fun e W' => ∃ v, e = .returned v ∧ Rows.liftAboveSpec.post enc Tryd.prog Tryd.f10 false true false false W args v W' := by
  have hW' := hW
  obtain ⟨p, q, hA0, hV, rfl, hfz, hnd⟩ := hW
  have hA : DataW.TrodAll enc Tryd.prog W 0 (fun _ => true) true Tryd.f10.params.toList args.toList ds p := hA0
  rw [Tryd.params10] at hA hval
  obtain ⟨v0, vs0, d0, ds0, p0, q0, hargs, rfl, rfl, h0, r0⟩ := trodAll_cons hA
  obtain ⟨v1, vs1, d1, ds1, p1, q1, rfl, rfl, rfl, h1, r1⟩ := trodAll_cons r0
  obtain ⟨v2, vs2, d2, ds2, p2, q2, rfl, rfl, rfl, h2, r2⟩ := trodAll_cons r1
  obtain ⟨rfl, rfl, rfl⟩ := trodAll_nil r2
  obtain rfl : args = #[v0, v1, v2] := by cases args; simp_all
  obtain ⟨m, x, y, z, v, rfl⟩ := weight_arg (hval 0 23 v0 rfl rfl) h0
  obtain ⟨nc, nm, cw, rn, rr, qq, hcr⟩ := cranes_arg (hval 1 37 v1 rfl rfl) h1
  obtain ⟨rad, rfl, rfl, rfl, _w2⟩ := open_int Tryd.underlying3 (hval 2 3 v2 rfl rfl) h2
  refine (liftAbove_walk m x y z v _ nc nm cw rn rr qq rad W (maxLen_of W hSh) hcr).mono fun e W' ⟨he, hb⟩ => ?_
  subst he
  exact ⟨_, rfl, law_post laidOut (by kernel_rfl) (by kernel_rfl) Tryd.underlying4 rfl hW' (fun _ => rfl) hb⟩
theorem liftAbove_laid (os : Os) : laidMet Tryd.prog Rows.liftAboveRow.laid ((laidWorld os).forCall (fun _ _ => 0) ⟨#[], #[.agg #[.int .i64 0, .int .i64 0, .int .i64 0, .int .i64 0, .int .i64 0], .slice none 0 0, .int .i64 0], []⟩).memory := laidMet_of_run' 8 (by kernel_rfl) (by kernel_rfl)
theorem liftAbove_reads (os : Os) {H : Type} (enc : TypeId × Value → H) : ∃ places, DataW.whole enc Tryd.prog ((laidWorld os).forCall (fun _ _ => 0) ⟨#[], #[.agg #[.int .i64 0, .int .i64 0, .int .i64 0, .int .i64 0, .int .i64 0], .slice none 0 0, .int .i64 0], []⟩).memory Tryd.f10.params.toList Rows.liftAboveSpec.vars false (#[.agg #[.int .i64 0, .int .i64 0, .int .i64 0, .int .i64 0, .int .i64 0], .slice none 0 0, .int .i64 0] : Array Value).toList 8 = some ([.agg [.lit (.int .i64 0), .lit (.int .i64 0), .lit (.int .i64 0), .lit (.int .i64 0), .lit (.int .i64 0)], .nil, .lit (.int .i64 0)], [], places) := ⟨[], by kernel_rfl⟩
set_option maxRecDepth 100000 in
theorem liftAbove_lifted (os : Os) (started : os.Started) (H : Type) (enc : TypeId × Value → H) (F : Stop.Interp) :
    ReturnsInHanded {} Tryd.checked os 10 .any ((OpenSpec.ofChange Rows.liftAboveSpec).preRow enc Tryd.prog Tryd.f10 Rows.liftAboveRow.domain false Rows.liftAboveRow.laid) (((OpenSpec.ofChange Rows.liftAboveSpec).at F).post enc Tryd.prog Tryd.f10 false true false false) := by
  obtain ⟨places, hx⟩ := liftAbove_reads os enc
  refine returnsInHanded_of_row (C := Tryd.checked) (s := OpenSpec.ofChange Rows.liftAboveSpec) own started (by kernel_rfl) Tryd.func10
    (witness_row_at (enc := enc) (C := Tryd.checked) false (laidWorld os) #[.agg #[.int .i64 0, .int .i64 0, .int .i64 0, .int .i64 0, .int .i64 0], .slice none 0 0, .int .i64 0] rfl (by kernel_rfl) (by kernel_rfl) (by kernel_rfl)
      (OpenSpec.preRow_of_cond 8 hx (by kernel_rfl) (fun k hk => by cases hk) (by kernel_rfl) (liftAbove_laid os))) ?_
  intro W base args ds gs before hval hW _ _ _ hL hSh _
  exact liftAbove_contract H enc W base args ds gs before hval hW hL hSh
theorem liftAbove_said : Rows.LiftAboveSaid :=
  OpenClaim.holds_of_cond 10 Tryd.f10 rfl rfl rfl rfl rfl rfl rfl ⟨rfl, rfl, rfl, rfl, rfl⟩ rfl rfl rfl rfl rfl (by kernel_rfl) Tryd.func10 (by kernel_rfl)
    (of_decide_eq_true (by kernel_rfl)) (by unfold Func.isWrapper; rw [if_neg (of_decide_eq_false (by kernel_rfl))]; exact ⟨rfl, rfl⟩)
    (fun os started H enc _ F => by rw [OpenClaim.pre_eq_preRow]; exact liftAbove_lifted os started H enc F)
theorem liftAbove_plain (f : FuncId) (fn : Func) (hf : Tryd.pinned.checked.prog.funcNamed "shipyard/shipyardlaw50.LiftAbove" = some f) (hfn : Tryd.pinned.checked.prog.funcs[f]? = some fn) :
    false = Tryd.pinned.checked.prog.looks [] ∧ ∀ (j : Nat) t, fn.params[j]? = some t → Tryd.pinned.checked.prog.wantsStandIn t = false := by
  obtain rfl : f = 10 := Option.some.inj ((show Tryd.prog.funcNamed "shipyard/shipyardlaw50.LiftAbove" = some 10 by kernel_rfl).symm.trans hf) |>.symm
  obtain rfl : fn = Tryd.f10 := (Option.some.inj (Tryd.func10.symm.trans hfn)).symm
  refine ⟨by kernel_rfl, fun j t ht => ?_⟩
  rw [Tryd.params10] at ht
  have hm : t ∈ [23, 37, 3] := by simpa using Array.mem_of_getElem? ht
  have hall : ([23, 37, 3].all fun u => !Tryd.prog.wantsStandIn u) = true := by kernel_rfl
  exact (show Tryd.prog.wantsStandIn t = false by simpa using List.all_eq_true.1 hall t hm)
/-- the card -/
theorem liftAbove_card : Rows.LiftAboveCardSaid :=
  Claim7.holds_tied_plain_at .later [] _ _ _ _ liftAbove_said (fun _ h => by cases h) (by kernel_rfl) (fun _ h => by cases h) liftAbove_row_tie rfl ⟨rfl, rfl⟩ (by kernel_rfl) rfl liftAbove_plain (by kernel_rfl)
#print axioms liftAbove_card
end Go.Proofs.YtjgpgfnnbfgkiaaDoor
