/-
  SameInts, Same, Light and Options. Conditions: none. By an AI agent.
-/
import Derived.Test.YtjgpgfnnbfgkiaaDoorLiftC
import Derived.Test.YtjgpgfnnbfgkiaaDoorCraneF
namespace Go.Proofs.YtjgpgfnnbfgkiaaDoor
open Go Go.ChangeShapes Go.WideShapes Go.RowKit Go.ChangeAt
set_option linter.unusedSimpArgs false
set_option linter.unusedVariables false
/-- a list of strings in memory, of whatever length each -/
def NamesAt (w : World) (v : Value) (l : List ByteArray) : Prop := SliceAt w v l.length 1 (fun i _ => .string (l.getD i ⟨#[]⟩))
theorem NamesAt.below {w w' : World} {v : Value} {l : List ByteArray} (h : NamesAt w v l) (hb : Below w.heap.size w w') : NamesAt w' v l := SliceAt.below h hb
theorem names_nil (w : World) : NamesAt w (.slice none 0 0) [] := ⟨none, 0, rfl, by simp, by omega, fun h => by simp at h⟩
theorem NamesAt.form {w : World} {v : Value} {l : List ByteArray} (h : NamesAt w v l) : ∃ (oa : Option Addr) (cap : Nat), v = .slice oa l.length cap ∧ l.length ≤ 9223372036854775807 ∧
    ∀ i, i < l.length → ∃ b off, oa = some ⟨b, off, none⟩ ∧ b < w.heap.size ∧ ∀ k, k < l.length → w.cell? ⟨b, off + k, none⟩ = some (.string (l.getD k ⟨#[]⟩)) := by
  obtain ⟨oa, cap, h1, h2, h3, h4⟩ := h
  refine ⟨oa, cap, h1, by omega, fun i hi => ?_⟩
  obtain ⟨b, off, e, hlt, hc⟩ := h4 (by omega)
  exact ⟨b, off, e, hlt, fun k hk => by have := hc k 0 hk (by decide); simpa using this⟩
theorem owns_names {w : World} {base : Nat} {e : TypeId} {v : Value} {l : List ByteArray} (h : w.ownsRow base e 1 v l.length (l.map Value.string)) : NamesAt w v l :=
  owns_slice h _ (by decide) fun i j hi hj => by
    have : j = 0 := by omega
    subst this
    simp [hi]
theorem OutI.form {w : World} {v : Value} {l : List Int} (h : OutI w v l) : ∃ (oa : Option Addr) (cap : Nat), v = .slice oa l.length cap ∧ l.length ≤ 9223372036854775807 ∧
    ∀ i, i < l.length → ∃ b off, oa = some ⟨b, off, none⟩ ∧ b < w.heap.size ∧ ∀ k, k < l.length → w.cell? ⟨b, off + k, none⟩ = some (.int .i64 (l.getD k 0)) := IntsAt.form h
set_option maxHeartbeats 4000000 in
theorem sameInts_yes (va vb : Value) (l : List Int) (w : World) (ha : OutI w va l) (hb : OutI w vb l) :
    Calls Tryd.prog 16 #[va, vb] w fun e w' => e = .returned (.bool true) ∧ Below w.heap.size w w' := by
  obtain ⟨oa, ca, rfl, hn, hea⟩ := ha.form
  obtain ⟨ob, cb, rfl, -, heb⟩ := hb.form
  obtain ⟨n, hn2⟩ : ∃ n, l.length = n := ⟨_, rfl⟩
  rw [hn2] at hea heb hn ⊢
  have HEA := Lib.hid hea
  have HEB := Lib.hid heb
  clear ha hb hea heb hn2
  go_enter Tryd.func16, Tryd.ntmps16
  go_wp2
  go_loopw [5] (fun i wr => ∃ j : Nat, j ≤ n ∧ i = .int .i64 j ∧ Below w.heap.size w wr) (fun i _ => n - (intOf i).toNat)
  case atStart => exact ⟨0, by omega, rfl, Below.refl _ _⟩
  case round =>
    obtain ⟨j, hj, rfl, hb⟩ := hrel
    by_cases hlt : j < n
    · obtain ⟨b1, f1, rfl, hbl1, hcl1⟩ := HEA.out j hlt
      obtain ⟨b2, f2, rfl, hbl2, hcl2⟩ := HEB.out j hlt
      obtain ⟨x, hx⟩ : ∃ x, l.getD j 0 = x := ⟨_, rfl⟩
      have c0 : wr.cell? ⟨b1, f1 + j, none⟩ = some (.int .i64 x) := by rw [← hx]; exact (hb.cell (p := ⟨_, _, none⟩) hbl1).trans (hcl1 j hlt)
      have d0 : wr.cell? ⟨b2, f2 + j, none⟩ = some (.int .i64 x) := by rw [← hx]; exact (hb.cell (p := ⟨_, _, none⟩) hbl2).trans (hcl2 j hlt)
      have hbr1 : b1 < wr.heap.size := by have := hb.size; omega
      have hbr2 : b2 < wr.heap.size := by have := hb.size; omega
      have HBr := Lib.hid hb
      clear hcl1 hcl2 hb hx
      have hpc := past_cell
      go_wp2_with fail
      refine wp_region_past (by kernel_rfl) (by kernel_rfl) ?_
      iterate 9 go_big_quiet_step (fail)
      refine wpQuiet_nil ?_
      intro w1 hw'
      have hb1 := past_out hw'
      clear hw'
      have HB1 := Lib.hid (below_step HBr.out hb1)
      clear hb1
      go_wp2
      go_roundw
      case rel => exact ⟨j + 1, by omega, by go_num, HB1.out⟩
      case measure => simp [intOf]; omega
    · have HBr := Lib.hid hb
      clear hb
      go_wp2
      go_returns
      exact ⟨rfl, HBr.out⟩
set_option maxHeartbeats 4000000 in
theorem sameNames_yes (va vb : Value) (l : List ByteArray) (w : World) (ha : NamesAt w va l) (hb : NamesAt w vb l) :
    Calls Tryd.prog 20 #[va, vb] w fun e w' => e = .returned (.bool true) ∧ Below w.heap.size w w' := by
  obtain ⟨oa, ca, rfl, hn, hea⟩ := ha.form
  obtain ⟨ob, cb, rfl, -, heb⟩ := hb.form
  obtain ⟨n, hn2⟩ : ∃ n, l.length = n := ⟨_, rfl⟩
  rw [hn2] at hea heb hn ⊢
  have HEA := Lib.hid hea
  have HEB := Lib.hid heb
  clear ha hb hea heb hn2
  go_enter Tryd.func20, Tryd.ntmps20
  go_wp2
  go_loopw [5] (fun i wr => ∃ j : Nat, j ≤ n ∧ i = .int .i64 j ∧ Below w.heap.size w wr) (fun i _ => n - (intOf i).toNat)
  case atStart => exact ⟨0, by omega, rfl, Below.refl _ _⟩
  case round =>
    obtain ⟨j, hj, rfl, hb⟩ := hrel
    by_cases hlt : j < n
    · obtain ⟨b1, f1, rfl, hbl1, hcl1⟩ := HEA.out j hlt
      obtain ⟨b2, f2, rfl, hbl2, hcl2⟩ := HEB.out j hlt
      obtain ⟨x, hx⟩ : ∃ x, l.getD j ⟨#[]⟩ = x := ⟨_, rfl⟩
      have c0 : wr.cell? ⟨b1, f1 + j, none⟩ = some (.string x) := by rw [← hx]; exact (hb.cell (p := ⟨_, _, none⟩) hbl1).trans (hcl1 j hlt)
      have d0 : wr.cell? ⟨b2, f2 + j, none⟩ = some (.string x) := by rw [← hx]; exact (hb.cell (p := ⟨_, _, none⟩) hbl2).trans (hcl2 j hlt)
      have hbr1 : b1 < wr.heap.size := by have := hb.size; omega
      have hbr2 : b2 < wr.heap.size := by have := hb.size; omega
      have HBr := Lib.hid hb
      clear hcl1 hcl2 hb hx
      have hpc := past_cell
      go_wp2_with fail
      refine wp_region_past (by kernel_rfl) (by kernel_rfl) ?_
      iterate 9 go_big_quiet_step (fail)
      refine wpQuiet_nil ?_
      intro w1 hw'
      have hb1 := past_out hw'
      clear hw'
      have HB1 := Lib.hid (below_step HBr.out hb1)
      clear hb1
      go_wp2
      go_roundw
      case rel => exact ⟨j + 1, by omega, by go_num, HB1.out⟩
      case measure => simp [intOf]; omega
    · have HBr := Lib.hid hb
      clear hb
      go_wp2
      go_returns
      exact ⟨rfl, HBr.out⟩
def lightB (n : Nat) (rn : Nat → Nat) : Bool := allTo (fun i => decide (rn i ≤ 40)) (min n 30) && decide (n ≤ 20)
theorem light_small {n : Nat} {rn : Nat → Nat} (h : lightB n rn = true) : n ≤ 20 ∧ ∀ i, i < n → rn i ≤ 40 := by
  unfold lightB at h
  rw [Bool.and_eq_true] at h
  have h2 := of_decide_eq_true h.2
  exact ⟨h2, fun i hi => of_decide_eq_true (allTo_iff.1 h.1 i (by omega))⟩
set_option maxHeartbeats 4000000 in
theorem light_any (v : Value) (n : Nat) (nm : Nat → ByteArray) (cv : Nat → Value) (rn : Nat → Nat) (r q : Nat → Nat → Int) (w : World) (h : CranesAt w v n nm cv rn r q) :
    Calls Tryd.prog 17 #[v] w fun e w' => e = .returned (.bool (lightB n rn)) ∧ Below w.heap.size w w' := by
  have HCR := Lib.hid h.2
  obtain ⟨oa, cap, rfl, hn, hel⟩ := h.form
  have HEL := Lib.hid hel
  clear h hel
  obtain ⟨R, hR⟩ : ∃ R, lightB n rn = R := ⟨_, rfl⟩
  have HR : Hid ((allTo (fun i => decide (rn i ≤ 40)) (min n 30) && decide (n ≤ 20)) = R) := hR
  rw [hR]
  clear hR
  go_enter Tryd.func17, Tryd.ntmps17
  go_wp2
  go_loopw [3] (fun i wr => ∃ j : Nat, j ≤ n ∧ j ≤ 30 ∧ i = .int .i64 j ∧ Hid (∀ k, k < j → rn k ≤ 40) ∧ Below w.heap.size w wr) (fun i _ => n - (intOf i).toNat)
  case atStart => exact ⟨0, by omega, by omega, rfl, fun k hk => by omega, Below.refl _ _⟩
  case round =>
    obtain ⟨j, hj, hj30, rfl, hq, hb⟩ := hrel
    by_cases hlt : j < n ∧ j < 30
    · obtain ⟨hlt, hlt30⟩ := hlt
      obtain ⟨b, off, rfl, hbl, hcl⟩ := HEL.out j hlt
      have c1 : wr.cell? ⟨b, off + j * 2 + 1, none⟩ = some (cv j) := (hb.cell (p := ⟨_, _, none⟩) hbl).trans (hcl j hlt).2
      obtain ⟨oc, cc, hcv, hcn, -⟩ := (HCR.out j hlt).2.form
      rw [hcv] at c1
      have hbr : b < wr.heap.size := by have := hb.size; omega
      have HBr := Lib.hid hb
      clear hcl hb hcv
      by_cases h1 : rn j ≤ 40
      · have hq2 : Hid (∀ k, k < j + 1 → rn k ≤ 40) := fun k hk => by
          by_cases e : k = j
          · subst e; exact h1
          · exact hq.out k (by omega)
        have k1 : decide (40 < (rn j : Int)) = false := decide_eq_false (by omega)
        clear h1
        go_wp2
        go_roundw
        case rel => exact ⟨j + 1, by omega, by omega, by go_num, hq2, HBr.out⟩
        case measure => simp [intOf]; omega
      · have k1 : decide (40 < (rn j : Int)) = true := decide_eq_true (by omega)
        have HR0 : Hid (R = false) := by show R = false; rw [← HR.out, allTo_no (i := j) (by omega) (decide_eq_false h1), Bool.false_and]
        clear h1
        go_wp2
        go_returns
        rw [HR0.out]
        exact ⟨rfl, HBr.out⟩
    · have HBr := Lib.hid hb
      have hall : allTo (fun i => decide (rn i ≤ 40)) (min n 30) = true := allTo_iff.2 fun i hi => decide_eq_true (hq.out i (by omega))
      have HR0 : Hid (R = decide (n ≤ 20)) := by show R = _; rw [← HR.out, hall, Bool.true_and]
      clear hb hall
      by_cases h20 : n ≤ 20
      · have k2 : Hid (decide (n ≤ 20) = true) := decide_eq_true h20
        have k3 : decide ((n : Int) ≤ 20) = true := decide_eq_true (by omega)
        have hjn : j = n := by omega
        subst hjn
        go_wp2
        go_returns
        rw [HR0.out, k2.out]
        exact ⟨rfl, HBr.out⟩
      · have k2 : Hid (decide (n ≤ 20) = false) := decide_eq_false h20
        have k3 : decide ((n : Int) ≤ 20) = false := decide_eq_false (by omega)
        by_cases hjn : j < n
        · have hj3 : j = 30 := by omega
          subst hj3
          go_wp2
          go_returns
          rw [HR0.out, k2.out]
          exact ⟨rfl, HBr.out⟩
        · have hjn : j = n := by omega
          subst hjn
          go_wp2
          go_returns
          rw [HR0.out, k2.out]
          exact ⟨rfl, HBr.out⟩
/-- the names of the cranes that carry so much so far out -/
def optTo (nm : Nat → ByteArray) (rn : Nat → Nat) (r q : Nat → Nat → Int) (rad g : Int) : Nat → List ByteArray
  | 0 => []
  | k + 1 => if g ≤ loadF (rn k) (r k) (q k) rad then optTo nm rn r q rad g k ++ [nm k] else optTo nm rn r q rad g k
theorem optTo_len (nm : Nat → ByteArray) (rn : Nat → Nat) (r q : Nat → Nat → Int) (rad g : Int) : ∀ k, (optTo nm rn r q rad g k).length ≤ k
  | 0 => by simp [optTo]
  | k + 1 => by
    have := optTo_len nm rn r q rad g k
    unfold optTo
    split
    · simp; omega
    · omega
def optF (n : Nat) (nm : Nat → ByteArray) (rn : Nat → Nat) (r q : Nat → Nat → Int) (rad m x y z u : Int) : List ByteArray := if (grossF m x y z u).2 ≠ 0 then [] else optTo nm rn r q rad (grossF m x y z u).1 n
theorem info_str : (Tryd.prog.info? 9).map (fun i => (i.zero, i.size, i.bytes)) = some (some (.string ⟨#[]⟩), 1, 16) := by kernel_rfl
set_option maxRecDepth 20000 in
set_option maxHeartbeats 4000000 in
theorem opt_any (v : Value) (n : Nat) (nm : Nat → ByteArray) (cv : Nat → Value) (rn : Nat → Nat) (r q : Nat → Nat → Int) (rad m x y z u : Int) (w : World) (hn : n ≤ 1000000) (h : CranesAt w v n nm cv rn r q) :
    Calls Tryd.prog 21 #[.agg #[.int .i64 m, .int .i64 x, .int .i64 y, .int .i64 z, .int .i64 u], v, .int .i64 rad] w fun e w' => ∃ v', e = .returned v' ∧ NamesAt w' v' (optF n nm rn r q rad m x y z u) ∧ Below w.heap.size w w' := by
  have HCR := Lib.hid h.2
  obtain ⟨oa, cap, rfl, hn', hel⟩ := h.form
  have HEL := Lib.hid hel
  clear h hel
  obtain ⟨G, GE, hG⟩ : ∃ G GE, grossF m x y z u = (G, GE) := ⟨_, _, rfl⟩
  have E0 : Hid (optF n nm rn r q rad m x y z u = if GE ≠ 0 then [] else optTo nm rn r q rad G n) := by show _ = _; unfold optF; rw [hG]
  have HG := Lib.hid hG
  obtain ⟨i0, hi, hz0, hz1, hz2⟩ := info_parts info_str
  clear hG
  go_enter Tryd.func21, Tryd.ntmps21
  go_wp2_with fail
  (go_at_call 11; refine (gross_any _ _ _ _ _ _).mono ?_; rintro e w1 ⟨rfl, hb⟩)
  rw [HG.out]
  have HB1 : Hid (Below w.heap.size w w1) := by
    show Below _ _ _
    exact below_step (w := w) (by go_grown) hb
  clear hb
  by_cases hge : GE = 0
  · subst hge
    have E1 : Hid (optF n nm rn r q rad m x y z u = optTo nm rn r q rad G n) := E0.out.trans (if_neg (fun h => h rfl))
    go_wp2
    go_loopw [6, 20] (fun v i wr => ∃ j : Nat, j ≤ n ∧ i = .int .i64 j ∧ wr.ownsRow w.heap.size 9 1 v (optTo nm rn r q rad G j).length ((optTo nm rn r q rad G j).map Value.string) ∧ Below w.heap.size w wr) (fun _ i _ => n - (intOf i).toNat)
    case atStart => exact ⟨0, by omega, rfl, World.ownsRow_nil _ _ _ _, HB1.out⟩
    case round =>
      obtain ⟨j, hj, rfl, hown, hb⟩ := hrel
      have HO := Lib.hid hown
      have HBr := Lib.hid hb
      have hlen := optTo_len nm rn r q rad G j
      by_cases hlt : j < n
      · obtain ⟨b, off, rfl, hbl, hcl⟩ := HEL.out j hlt
        have c0 : wr.cell? ⟨b, off + j * 2, none⟩ = some (.string (nm j)) := (hb.cell (p := ⟨_, _, none⟩) hbl).trans (hcl j hlt).1
        have c1 : wr.cell? ⟨b, off + j * 2 + 1, none⟩ = some (cv j) := (hb.cell (p := ⟨_, _, none⟩) hbl).trans (hcl j hlt).2
        obtain ⟨oc, cc, hcv, hcn, -⟩ := (HCR.out j hlt).2.form
        have HP := Lib.hid (HCR.out j hlt).2
        rw [hcv] at c1 HP
        have hbr : b < wr.heap.size := by have := hb.size; omega
        have hne : b ≠ wr.heap.size := by omega
        have hws : w.heap.size ≤ wr.heap.size := hb.size
        clear hcl hb hcv hown
        obtain ⟨L, hL⟩ : ∃ L, loadF (rn j) (r j) (q j) rad = L := ⟨_, rfl⟩
        have HL := Lib.hid hL
        clear hL
        go_wp2_with fail
        (go_at_call 24; refine (load_any _ _ _ _ _ _ _ (HP.out.below (HBr.out.alloc HBr.out.size _))).mono ?_; rintro e w2 ⟨rfl, hb⟩)
        rw [HL.out]
        have HB2 : Hid (Below w.heap.size w w2) := by
          show Below _ _ _
          exact below_step (HBr.out.alloc HBr.out.size _) hb
        have HO2 := Lib.hid (owns_below HO.out (below_step (w := wr) (by go_grown) hb))
        have hs2 := hb.size
        (try simp only [World.size_alloc] at hs2)
        have z2 : wr.heap.size < w2.heap.size := by omega
        have x20 : w2.cell? ⟨wr.heap.size, 0, none⟩ = some (.string (nm j)) := (hb.cell (p := ⟨_, _, none⟩) (by simp)).trans (by simp [go_sem])
        clear hb hs2
        by_cases hq : G ≤ L
        · have HS2 : Hid (optTo nm rn r q rad G (j + 1) = optTo nm rn r q rad G j ++ [nm j]) := if_pos (by rw [HL.out]; exact hq)
          go_wp2_with (first | (at_builtin; refine wpList_append_own _ rfl _ _ 45 rfl w.heap.size 9 i0 (.string ⟨#[]⟩) 1 16 Tryd.underlying45 hi hz0 hz1 hz2 rfl (by decide) _ _ _ rfl (HO2.out.alloc _) ⟨w2.heap.size, 0, none⟩ 1 1 [(.string (nm j))] rfl rfl ?c1 ?c2 ?c3 ?c4 ?c5 ?_) | go_in)
          case c1 =>
            intro j u hj
            match j, hj with
            | 0, hj =>
              simp at hj
              subst hj
              simp [Addr.add]
              try rfl
          case c2 => intro u hu; simp at hu; subst hu; rfl
          case c3 => unfold maxLen; omega
          case c4 => omega
          case c5 => have := HB2.out.size; simp; omega
          intro v' w7 hown' hgrow _
          have hB7 : Below w.heap.size w w7 := Below.grown (HB2.out.alloc HB2.out.size _) hgrow (by have := HB2.out.size; first | omega | (simp; omega)) (fun q hq => owns_new HO2.out q hq)
          have HB7 := Lib.hid hB7
          have HO7 : Hid (w7.ownsRow w.heap.size 9 1 v' (optTo nm rn r q rad G (j + 1)).length ((optTo nm rn r q rad G (j + 1)).map Value.string)) := by
            show w7.ownsRow _ _ _ _ _ _
            rw [HS2.out, List.length_append, List.map_append]
            exact hown'
          clear hown' hgrow hB7
          go_wp2
          go_roundw
          case rel => exact ⟨j + 1, by omega, by go_num, HO7.out, HB7.out⟩
          case measure => simp [intOf]; omega
        · have HS2 : Hid (optTo nm rn r q rad G (j + 1) = optTo nm rn r q rad G j) := if_neg (by rw [HL.out]; exact hq)
          have hq2 : L < G := by omega
          clear hq
          go_wp2
          go_roundw
          case rel => exact ⟨j + 1, by omega, by go_num, by rw [HS2.out]; exact HO2.out, HB2.out⟩
          case measure => simp [intOf]; omega
      · have hjn : j = n := by omega
        subst hjn
        clear hb hown
        go_wp2
        go_returns
        rw [E1.out]
        exact ⟨_, rfl, owns_names HO.out, HBr.out⟩
  · have E1 : Hid (optF n nm rn r q rad m x y z u = []) := E0.out.trans (if_pos hge)
    have g0 : (GE != 0) = true := by simpa using hge
    clear hge
    go_wp2
    go_returns
    rw [E1.out]
    exact ⟨_, rfl, names_nil _, HB1.out⟩
set_option maxRecDepth 20000 in
set_option maxHeartbeats 4000000 in
theorem ropt_any (v : Value) (n : Nat) (nm : Nat → ByteArray) (cv : Nat → Value) (rn : Nat → Nat) (r q : Nat → Nat → Int) (rad m x y z u : Int) (w : World) (hn : n ≤ 1000000) (h : CranesAt w v n nm cv rn r q) :
    Calls Tryd.prog 22 #[.agg #[.int .i64 m, .int .i64 x, .int .i64 y, .int .i64 z, .int .i64 u], v, .int .i64 rad] w fun e w' => ∃ v', e = .returned v' ∧ NamesAt w' v' (optF n nm rn r q rad m x y z u) ∧ Below w.heap.size w w' := by
  have HCR := Lib.hid h.2
  obtain ⟨oa, cap, rfl, hn', hel⟩ := h.form
  have HEL := Lib.hid hel
  clear h hel
  obtain ⟨G, GE, hG⟩ : ∃ G GE, grossF m x y z u = (G, GE) := ⟨_, _, rfl⟩
  have E0 : Hid (optF n nm rn r q rad m x y z u = if GE ≠ 0 then [] else optTo nm rn r q rad G n) := by show _ = _; unfold optF; rw [hG]
  have HG := Lib.hid hG
  obtain ⟨i0, hi, hz0, hz1, hz2⟩ := info_parts info_str
  clear hG
  go_enter Tryd.func22, Tryd.ntmps22
  go_wp2_with fail
  (go_at_call 12; refine (rgross_any _ _ _ _ _ _).mono ?_; rintro e w1 ⟨rfl, hb⟩)
  rw [HG.out]
  have HB1 : Hid (Below w.heap.size w w1) := by
    show Below _ _ _
    exact below_step (w := w) (by go_grown) hb
  clear hb
  by_cases hge : GE = 0
  · subst hge
    have E1 : Hid (optF n nm rn r q rad m x y z u = optTo nm rn r q rad G n) := E0.out.trans (if_neg (fun h => h rfl))
    go_wp2
    go_loopw [9, 10] (fun v i wr => ∃ j : Nat, j ≤ n ∧ i = .int .i64 j ∧ wr.ownsRow w.heap.size 9 1 v (optTo nm rn r q rad G j).length ((optTo nm rn r q rad G j).map Value.string) ∧ Below w.heap.size w wr) (fun _ i _ => n - (intOf i).toNat)
    case atStart => exact ⟨0, by omega, rfl, World.ownsRow_nil _ _ _ _, HB1.out⟩
    case round =>
      obtain ⟨j, hj, rfl, hown, hb⟩ := hrel
      have HO := Lib.hid hown
      have HBr := Lib.hid hb
      have hlen := optTo_len nm rn r q rad G j
      by_cases hlt : j < n
      · obtain ⟨b, off, rfl, hbl, hcl⟩ := HEL.out j hlt
        have c0 : wr.cell? ⟨b, off + j * 2, none⟩ = some (.string (nm j)) := (hb.cell (p := ⟨_, _, none⟩) hbl).trans (hcl j hlt).1
        have c1 : wr.cell? ⟨b, off + j * 2 + 1, none⟩ = some (cv j) := (hb.cell (p := ⟨_, _, none⟩) hbl).trans (hcl j hlt).2
        obtain ⟨oc, cc, hcv, hcn, -⟩ := (HCR.out j hlt).2.form
        have HP := Lib.hid (HCR.out j hlt).2
        rw [hcv] at c1 HP
        have hbr : b < wr.heap.size := by have := hb.size; omega
        have hne : b ≠ wr.heap.size := by omega
        have hws : w.heap.size ≤ wr.heap.size := hb.size
        clear hcl hb hcv hown
        obtain ⟨L, hL⟩ : ∃ L, loadF (rn j) (r j) (q j) rad = L := ⟨_, rfl⟩
        have HL := Lib.hid hL
        clear hL
        go_wp2_with fail
        (go_at_call 42; refine (rload_any _ _ _ _ _ _ _ (HP.out.below HBr.out)).mono ?_; rintro e w2 ⟨rfl, hb⟩)
        rw [HL.out]
        have HB2 := Lib.hid (below_step HBr.out hb)
        have HO2 := Lib.hid (owns_below HO.out hb)
        have z2 : b < w2.heap.size := by have := hb.size; omega
        have x20 := (hb.cell (p := ⟨b, off + j * 2, none⟩) hbr).trans c0
        clear hb
        by_cases hq : G ≤ L
        · have HS2 : Hid (optTo nm rn r q rad G (j + 1) = optTo nm rn r q rad G j ++ [nm j]) := if_pos (by rw [HL.out]; exact hq)
          go_wp2_with (first | (at_builtin; refine wpList_append_own _ rfl _ _ 45 rfl w.heap.size 9 i0 (.string ⟨#[]⟩) 1 16 Tryd.underlying45 hi hz0 hz1 hz2 rfl (by decide) _ _ _ rfl (HO2.out.alloc _) ⟨w2.heap.size, 0, none⟩ 1 1 [(.string (nm j))] rfl rfl ?c1 ?c2 ?c3 ?c4 ?c5 ?_) | go_in)
          case c1 =>
            intro j u hj
            match j, hj with
            | 0, hj =>
              simp at hj
              subst hj
              simp [Addr.add]
              try rfl
          case c2 => intro u hu; simp at hu; subst hu; rfl
          case c3 => unfold maxLen; omega
          case c4 => omega
          case c5 => have := HB2.out.size; simp; omega
          intro v' w7 hown' hgrow _
          have hB7 : Below w.heap.size w w7 := Below.grown (HB2.out.alloc HB2.out.size _) hgrow (by have := HB2.out.size; first | omega | (simp; omega)) (fun q hq => owns_new HO2.out q hq)
          have HB7 := Lib.hid hB7
          have HO7 : Hid (w7.ownsRow w.heap.size 9 1 v' (optTo nm rn r q rad G (j + 1)).length ((optTo nm rn r q rad G (j + 1)).map Value.string)) := by
            show w7.ownsRow _ _ _ _ _ _
            rw [HS2.out, List.length_append, List.map_append]
            exact hown'
          clear hown' hgrow hB7
          go_wp2
          go_roundw
          case rel => exact ⟨j + 1, by omega, by go_num, HO7.out, HB7.out⟩
          case measure => simp [intOf]; omega
        · have HS2 : Hid (optTo nm rn r q rad G (j + 1) = optTo nm rn r q rad G j) := if_neg (by rw [HL.out]; exact hq)
          have hq2 : L < G := by omega
          clear hq
          go_wp2
          go_roundw
          case rel => exact ⟨j + 1, by omega, by go_num, by rw [HS2.out]; exact HO2.out, HB2.out⟩
          case measure => simp [intOf]; omega
      · have hjn : j = n := by omega
        subst hjn
        clear hb hown
        go_wp2
        go_returns
        rw [E1.out]
        exact ⟨_, rfl, owns_names HO.out, HBr.out⟩
  · have E1 : Hid (optF n nm rn r q rad m x y z u = []) := E0.out.trans (if_pos hge)
    have g0 : (GE != 0) = true := by simpa using hge
    clear hge
    go_wp2
    go_returns
    rw [E1.out]
    exact ⟨_, rfl, names_nil _, HB1.out⟩
end Go.Proofs.YtjgpgfnnbfgkiaaDoor
